/- Law 15: the answers for any page and any key are the reference's. -/
import Derived.Test.YthbmjicmhikpgaaS1
import Derived.KernelRfl
set_option linter.unusedVariables false
set_option linter.unusedSimpArgs false
set_option maxRecDepth 10000
namespace Go.Ev.L
open Go Go.Ev Go.Ev.M

theorem known15 : m_ticketlinelaw15_known = some true := by kernel_rfl

theorem badS_bne {p : List Int} (h : srtB p = false) : (badS p != 0) = true := by
  have := badS_zero (p := p)
  rw [h] at this
  rw [bne, this]; rfl

theorem badS_ne {p : List Int} (h : srtB p = false) : badS p ≠ 0 := by
  have := badS_bne h
  simpa using this

theorem search_Get {p : List Int} (hp : PageOK p) (key : ByteArray) : m_search_Get p key = some (if srtB p = true then (if G p 8 = 1 then (if isS key (pairsS p) = true then ((GP (pairsS p) (posS key (pairsS p))).2.1, (0 : Int)) else (eB, 9)) else (eB, 8)) else (eB, badS p)) := by
  unfold m_search_Get
  rw [search_Find hp, slot_Level hp]
  cases h : srtB p with
  | false => simp [badS_ne h]
  | true =>
    obtain ⟨h1, h2⟩ := srtB_spec h
    obtain ⟨hl, hlc⟩ := pairsS_len hp h1
    simp only [if_true, Option.bind_some, bne_self_eq_false, Bool.false_eq_true, if_false, h1]
    by_cases c1 : G p 8 = 1
    · simp only [c1, if_true, show ((1 : Int) - 1 != 0) = false by decide, Bool.false_eq_true, if_false]
      cases hi : isS key (pairsS p) with
      | false => simp
      | true =>
        have hlt : posS key (pairsS p) < (pairsS p).length := by
          rcases Nat.lt_or_ge (posS key (pairsS p)) (pairsS p).length with c | c
          · exact c
          · rw [isS_end c] at hi; cases hi
        have hg := GP_pairs (p := p) (i := (posS key (pairsS p) : Int)) (by omega) (by omega)
        have hc : ¬ ((posS key (pairsS p) : Int) < 0 ∨ (count p : Int) ≤ (posS key (pairsS p) : Int)) := by omega
        simp only [Bool.not_true, Bool.false_eq_true, if_false, slot_Value hp, hg, h1, if_true, hc, Option.bind_some]
    · have : (G p 8 - 1 != 0) = true := by simp; omega
      simp [c1, this]

theorem search_Down {p : List Int} (hp : PageOK p) (key : ByteArray) : m_search_Down p key = some (if srtB p = true then (if G p 8 = 1 then ((0 : Int), (0 : Int), (8 : Int)) else if downI key (pairsS p) < 0 then (0, 0, 9) else (downI key (pairsS p), G p (midS (sw p (downI key (pairsS p)))), 0)) else (0, 0, badS p)) := by
  unfold m_search_Down
  rw [search_Find hp, slot_Level hp]
  cases h : srtB p with
  | false => simp [badS_ne h]
  | true =>
    obtain ⟨h1, h2⟩ := srtB_spec h
    obtain ⟨hl, hlc⟩ := pairsS_len hp h1
    have hd := downI_range key (pairsS p)
    have hpl := posS_le key (pairsS p)
    simp only [if_true, Option.bind_some, bne_self_eq_false, Bool.false_eq_true, if_false, h1]
    by_cases c1 : G p 8 = 1
    · simp [c1]
    · have e1 : (G p 8 - 1 == 0) = false := by simp; omega
      simp only [e1, Bool.false_eq_true, if_false, c1]
      have hC : ∀ i : Int, 0 ≤ i → i < count p → m_slot_Child p i = some (G p (midS (sw p i)), 0) := by
        intro i h3 h4
        rw [slot_Child hp, h1, if_pos rfl, if_neg (by omega), if_neg c1]
      cases hi : isS key (pairsS p) with
      | false =>
        have hdi : downI key (pairsS p) = (posS key (pairsS p) : Int) - 1 := by simp [downI, hi]
        have w1 : IntKind.i64.wrap ((posS key (pairsS p) : Int) - 1) = (posS key (pairsS p) : Int) - 1 := wI (by omega) (by omega)
        simp only [Bool.not_false, if_true, w1, hdi]
        by_cases c2 : (posS key (pairsS p) : Int) - 1 < 0
        · simp [c2]
        · rw [hC _ (by omega) (by omega)]; simp [c2]
      | true =>
        have hdi : downI key (pairsS p) = (posS key (pairsS p) : Int) := by simp [downI, hi]
        simp only [Bool.not_true, Bool.false_eq_true, if_false, hdi, show ¬ (posS key (pairsS p) : Int) < 0 by omega, decide_false]
        rw [hC _ (by omega) (by omega)]; simp

theorem mx_nat (a b : Int) : mx a b = max a b := by unfold mx; split <;> omega
theorem search_Range {p : List Int} (hp : PageOK p) (a b : ByteArray) : m_search_Range p a b = some (if srtB p = true then ((posS a (pairsS p) : Int), mx (posS a (pairsS p)) (if strEq b eB = true then ((pairsS p).length : Int) else (posS b (pairsS p) : Int)), (0 : Int)) else (0, 0, badS p)) := by
  unfold m_search_Range
  rw [search_sorted hp]
  cases h : srtB p with
  | false => simp [badS_ne h]
  | true =>
    obtain ⟨h1, h2⟩ := srtB_spec h
    obtain ⟨hl, hlc⟩ := pairsS_len hp h1
    simp only [if_true, Option.bind_some, bne_self_eq_false, Bool.false_eq_true, if_false, search_place _ h2 hl]
    cases strEq b eB <;> simp

theorem finds15 {p : List Int} {key : ByteArray} {i e : Int} {is : Bool} (h : m_search_Find p key = some (i, is, e)) : m_ticketlinelaw15_finds p key i is e = some true := by
  unfold m_ticketlinelaw15_finds; rw [h]; simp
theorem gets15 {p : List Int} {key v : ByteArray} {e : Int} (h : m_search_Get p key = some (v, e)) : m_ticketlinelaw15_gets p key v e = some true := by
  unfold m_ticketlinelaw15_gets; rw [h]; simp [strEq_refl]
theorem downs15 {p : List Int} {key : ByteArray} {i c e : Int} (h : m_search_Down p key = some (i, c, e)) : m_ticketlinelaw15_downs p key i c e = some true := by
  unfold m_ticketlinelaw15_downs; rw [h]; simp
theorem ranges15 {p : List Int} {a b : ByteArray} {i k e : Int} (h : m_search_Range p a b = some (i, k, e)) : m_ticketlinelaw15_ranges p a b i k e = some true := by
  unfold m_ticketlinelaw15_ranges; rw [h]; simp

theorem ref15_Child {w : Int} (h0 : 0 ≤ w) (h1 : w ≤ 511) : m_ticketlineref15_Child (strOf (w8 w)) = some w := by
  obtain ⟨b1, b2, b3⟩ := bt_w8 w
  have wv : IntKind.i64.wrap (IntKind.i64.wrap (IntKind.i64.wrap (w / 256 % 256) * 256) + IntKind.i64.wrap (w % 256)) = w := by
    rw [wI (x := w / 256 % 256) (by omega) (by omega), wI (x := w / 256 % 256 * 256) (by omega) (by omega), wI (x := w % 256) (by omega) (by omega), wI (by omega) (by omega)]
    omega
  unfold m_ticketlineref15_Child
  rw [b1, b2, b3, wv]
  rfl

theorem right15 {p : List Int} (hp : PageOK p) (key : ByteArray) : m_ticketlinelaw15_right p key = some true := by
  have hF := search_Find hp key
  have hG := search_Get hp key
  have hD := search_Down hp key
  have hb := badS_zero (p := p)
  unfold m_ticketlinelaw15_right
  rw [ref15_Bad hp, search_Sorted hp]
  cases h : srtB p with
  | false =>
    simp only [h, Bool.false_eq_true, if_false] at hF hG hD
    have e1 := finds15 hF
    have e2 := gets15 hG
    have e3 := downs15 hD
    have e4 := badS_ne h
    simp [e1, e2, e3, e4]
  | true =>
    obtain ⟨h1, h2⟩ := srtB_spec h
    obtain ⟨hl, hlc⟩ := pairsS_len hp h1
    have hd := downI_range key (pairsS p)
    have hpl := posS_le key (pairsS p)
    have hh := head_spec (valid_head h1)
    rw [h] at hb
    have hb' : badS p = 0 := by simpa using hb
    simp only [h, if_true] at hF hG hD
    have e1 := finds15 hF
    simp only [Option.bind_some, hb', beq_self_eq_true, Bool.not_true, Bool.false_eq_true, if_false, bne_self_eq_false, ref_Pairs hp h1, ref15_Find key _ hl, e1, rd_G, rd_GP]
    by_cases c1 : G p 8 = 1
    · simp only [c1, if_true] at hG hD
      have e3 := downs15 hD
      simp only [c1, beq_self_eq_true, if_true, e3, Option.bind_some, Bool.not_true, Bool.false_eq_true, if_false]
      cases hi : isS key (pairsS p) with
      | false =>
        simp only [hi, Bool.false_eq_true, if_false] at hG
        have e2 := gets15 hG
        simp [e2]
      | true =>
        simp only [hi, if_true] at hG
        have e2 := gets15 hG
        have hlt : posS key (pairsS p) < (pairsS p).length := by
          rcases Nat.lt_or_ge (posS key (pairsS p)) (pairsS p).length with c | c
          · exact c
          · rw [isS_end c] at hi; cases hi
        simp only [if_true, Int.natCast_nonneg, show (posS key (pairsS p) : Int) < ((pairsS p).length : Int) by omega, e2, Option.bind_some]
    · have f1 : (G p 8 == 1) = false := by simpa using c1
      simp only [c1, if_false] at hG hD
      have e2 := gets15 hG
      simp only [f1, Bool.false_eq_true, if_false, e2, Option.bind_some, Bool.not_true, ref15_Down key h2 hl]
      by_cases c2 : downI key (pairsS p) < 0
      · simp only [c2, if_true] at hD
        have e3 := downs15 hD
        simp [show ¬ downI key (pairsS p) ≥ 0 by omega, e3]
      · simp only [c2, if_false] at hD
        have e3 := downs15 hD
        have hg := GP_pairs (p := p) (i := downI key (pairsS p)) (by omega) (by omega)
        have hgood := valid_good hp h1 (j := (downI key (pairsS p)).toNat) (by omega)
        rw [show (((downI key (pairsS p)).toNat : Nat) : Int) = downI key (pairsS p) by omega] at hgood
        have hvi := val_inner hp hgood.sized c1
        have hpo : (pairOf p (downI key (pairsS p))).2.1 = strOf (w8 (G p (midS (sw p (downI key (pairsS p)))))) := by simp [pairOf, hvi]
        have hch := hgood.child (by omega)
        have hrc := ref15_Child (w := G p (midS (sw p (downI key (pairsS p))))) (by omega) (by omega)
        simp only [show downI key (pairsS p) ≥ 0 by omega, decide_true, if_true, show (0 : Int) ≤ downI key (pairsS p) by omega, show downI key (pairsS p) < ((pairsS p).length : Int) by omega, hg, hpo, hrc, Option.bind_some, e3]

theorem searchFinds_true {x : Pln} (h : PlnOK x) (key : ByteArray) : m_ticketlinelaw15_SearchFinds x key = some true := by
  obtain ⟨p, b, h1, h2, h3⟩ := plan_page h
  unfold m_ticketlinelaw15_SearchFinds
  rw [h1]
  by_cases c : (key.size : Int) > 60
  · cases b <;> simp [known15, c]
  · cases b <;> simp [known15, c, right15 h2]

theorem searchRanges_true {x : Pln} (h : PlnOK x) (a b : ByteArray) : m_ticketlinelaw15_SearchRanges x a b = some true := by
  obtain ⟨p, bo, h1, h2, h3⟩ := plan_page h
  have hR := search_Range h2 a b
  unfold m_ticketlinelaw15_SearchRanges
  rw [h1]
  simp only [Option.bind_some, known15]
  cases bo with
  | false => simp
  | true =>
    by_cases c : (a.size : Int) > 60
    · simp [c]
    by_cases c' : (b.size : Int) > 60
    · simp [c, c']
    simp only [Bool.not_true, Bool.false_eq_true, if_false, c, c', decide_false, ref15_Bad h2, Option.bind_some]
    cases hs : srtB p with
    | false =>
      simp only [hs, Bool.false_eq_true, if_false] at hR
      simp [badS_ne hs, ranges15 hR]
    | true =>
      obtain ⟨v1, v2⟩ := srtB_spec hs
      obtain ⟨hl, hlc⟩ := pairsS_len h2 v1
      have hb := badS_zero (p := p)
      rw [hs] at hb
      have hb' : badS p = 0 := by simpa using hb
      simp only [hs, if_true] at hR
      simp only [hb', bne_self_eq_false, Bool.false_eq_true, if_false, ref_Pairs h2 v1, ref15_Find _ _ hl, Option.bind_some]
      cases he : strEq b eB with
      | true =>
        simp only [he, if_true] at hR
        simp [ranges15 hR]
      | false =>
        simp only [he, Bool.false_eq_true, if_false] at hR
        simp [ranges15 hR]

theorem searchWords_l0 {l : List Int} (hl : U64 l) (hlen : l.length ≤ 128) (key : ByteArray) : ∀ (m n N i : Nat) (p : List Int), i + m = l.length → m < n → PageOK p → m_ticketlinelaw15_SearchWords_l0 N n l key i p = some true := by
  intro m
  induction m with
  | zero =>
    intro n N i p hm hn hp
    obtain ⟨n, rfl⟩ : ∃ q, n = q + 1 := ⟨n - 1, by omega⟩
    obtain rfl : i = l.length := by omega
    simp [m_ticketlinelaw15_SearchWords_l0, m_ticketlinelaw15_SearchWords_l0_b, right15 hp, known15]
  | succ m ih =>
    intro n N i p hm hn hp
    obtain ⟨n, rfl⟩ : ∃ q, n = q + 1 := ⟨n - 1, by omega⟩
    have hg := hl.G i
    have := ih n N (i + 1) (p.set i (G l i)) (by omega) (by omega) (hp.set i hg.1 hg.2)
    have w2 : IntKind.i64.wrap ((i : Int) + 1) = ((i + 1 : Nat) : Int) := by rw [wI (by omega) (by omega)]; omega
    simp only [m_ticketlinelaw15_SearchWords_l0, m_ticketlinelaw15_SearchWords_l0_b, show (i : Int) < l.length by omega, show (i : Int) < 128 by omega, decide_true, if_true, Int.natCast_nonneg, w2, Int.toNat_natCast, rd_G, this]
theorem searchWords_true {l : List Int} (hl : U64 l) (key : ByteArray) : m_ticketlinelaw15_SearchWords l key = some true := by
  unfold m_ticketlinelaw15_SearchWords m_ticketlinelaw15_SearchWords_a
  by_cases h : (l.length : Int) > 128
  · simp [h, known15]
  by_cases c : (key.size : Int) > 60
  · simp [h, c, known15]
  · have := searchWords_l0 hl (by omega) key l.length FUEL FUEL 0 (List.replicate 128 0) (by omega) (by have := FUEL_big; omega) page_zero
    simp only [h, c, decide_false, Bool.false_eq_true, if_false]
    exact this
end Go.Ev.L
