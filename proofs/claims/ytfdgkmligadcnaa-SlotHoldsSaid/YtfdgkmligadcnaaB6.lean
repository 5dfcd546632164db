/- Law 14: the answers for any page are the reference's. -/
import Derived.Test.YtfdgkmligadcnaaB5
import Derived.KernelRfl
set_option linter.unusedVariables false
set_option linter.unusedSimpArgs false
namespace Go.Ev.L
open Go Go.Ev Go.Ev.M

theorem GP_pairs {p : List Int} {i : Int} (h0 : 0 ≤ i) (h1 : i < count p) : GP (pairsS p) i = pairOf p i := by
  have hlt : i.toNat < (pairsS p).length := by simp [pairsS, pairsTo_length]; omega
  have := GP_get hlt
  rw [show ((i.toNat : Nat) : Int) = i by omega] at this
  rw [this]
  simp only [pairsS, pairsTo, List.getElem_map, List.getElem_range]
  rw [show ((i.toNat : Nat) : Int) = i by omega]

theorem bt_w8 (w : Int) : (strOf (w8 w)).size = 8 ∧ bt (strOf (w8 w)) 6 = w / 256 % 256 ∧ bt (strOf (w8 w)) 7 = w % 256 := by
  refine ⟨by rw [strOf_size]; rfl, ?_, ?_⟩
  · show (((strOf (w8 w)).data.toList.getD 6 0).toNat : Int) = _
    simp [strOf, w8]; omega
  · show (((strOf (w8 w)).data.toList.getD 7 0).toNat : Int) = _
    simp [strOf, w8]; omega

theorem win_one {l : List Int} {i : Int} (h0 : 0 ≤ i) (h1 : i < l.length) : win l i 1 = [G l i] := by
  unfold win
  have hlt : i.toNat < l.length := by omega
  have := G_get hlt
  rw [show ((i.toNat : Nat) : Int) = i by omega] at this
  rw [List.drop_eq_getElem_cons hlt, this]
  rfl

theorem val_inner {p : List Int} (hp : PageOK p) {i : Int} (hs : Sized p i) (h8 : G p 8 ≠ 1) : valOf p i = some (strOf (w8 (G p (midS (sw p i))))) := by
  have hv := hs.inner h8
  have m2 := hs.mid2 h8
  have m0 := hs.mid0
  have a0 := hs.at0
  have hlen := hp.1
  unfold valOf
  rw [hv, show W 8 = 1 by decide, win_one (by omega) (by omega)]
  unfold U
  rw [b8_one]
  rfl

theorem keyed14 {p : List Int} (hp : PageOK p) {i : Int} {x : Pr} {e : Int} (h : m_slot_pair p i = some (x, e)) : m_ticketlinelaw14_keyed p i (x.1, (x.2.1, ())) e = some true := by
  unfold m_ticketlinelaw14_keyed m_slot_Key m_slot_Value
  rw [h]
  simp [strEq_refl]
theorem child14 {p : List Int} {i n e : Int} (h : m_slot_Child p i = some (n, e)) : m_ticketlinelaw14_child p i n e = some true := by
  unfold m_ticketlinelaw14_child
  rw [h]
  simp

theorem right_l0 {p : List Int} (hp : PageOK p) (hv : validB p = true) : ∀ (m n N : Nat) (i : Int), i + m = count p + 1 → -1 ≤ i → m < n → m_ticketlinelaw14_right_l0 N n i p (pairsS p) = some true := by
  obtain ⟨hc, hc9⟩ := count_le hp hv
  have h1 := head_spec (valid_head hv)
  have hl : ((pairsS p).length : Int) = count p := by simp [pairsS, pairsTo_length]
  intro m
  induction m with
  | zero =>
    intro n N i hm hi hn
    obtain ⟨n, rfl⟩ : ∃ q, n = q + 1 := ⟨n - 1, by omega⟩
    simp [m_ticketlinelaw14_right_l0, m_ticketlinelaw14_right_l0_b, hl, show ¬ i ≤ (count p : Int) by omega]
  | succ m ih =>
    intro n N i hm hi hn
    obtain ⟨n, rfl⟩ : ∃ q, n = q + 1 := ⟨n - 1, by omega⟩
    have := ih n N (i + 1) (by omega) (by omega) (by omega)
    have w2 : IntKind.i64.wrap (i + 1) = i + 1 := wI (by omega) (by omega)
    have hP := slot_pair hp i
    have hC := slot_Child hp i
    simp only [hv, if_true] at hP hC
    simp only [m_ticketlinelaw14_right_l0, m_ticketlinelaw14_right_l0_b, hl, show i ≤ (count p : Int) by omega, decide_true, if_true, w2, this]
    by_cases c : i < 0 ∨ (count p : Int) ≤ i
    · simp only [c, if_true] at hP hC
      have e1 := keyed14 hp hP
      have e2 := child14 hC
      by_cases c1 : i < 0
      · simp only [c1, decide_true, if_true, e1, e2, Option.bind_some, Bool.not_true, Bool.false_eq_true, if_false]
      · simp only [c1, decide_false, Bool.false_eq_true, if_false, show i ≥ (count p : Int) by omega, decide_true, if_true, e1, e2, Option.bind_some, Bool.not_true]
    · simp only [c, if_false] at hP hC
      have e1 := keyed14 hp hP
      have hi0 : 0 ≤ i := by omega
      have hi1 : i < count p := by omega
      have hg := valid_good hp hv (j := i.toNat) (by omega)
      rw [show ((i.toNat : Nat) : Int) = i by omega] at hg
      simp only [show ¬ i < 0 by omega, show ¬ i ≥ (count p : Int) by omega, decide_false, Bool.false_eq_true, if_false, hi0, hi1, if_true, rd_GP, GP_pairs hi0 hi1, e1, Option.bind_some, Bool.not_true, rd_G]
      by_cases c1 : G p 8 = 1
      · simp only [c1, if_true] at hC
        have e2 := child14 hC
        simp [c1, e2]
      · simp only [c1, if_false] at hC
        have f1 : (G p 8 == 1) = false := by simpa using c1
        have hvi := val_inner hp hg.sized c1
        have hpo : (pairOf p i).2.1 = strOf (w8 (G p (midS (sw p i)))) := by simp [pairOf, hvi]
        obtain ⟨b1, b2, b3⟩ := bt_w8 (G p (midS (sw p i)))
        have hch := hg.child (by omega)
        have e2 := child14 hC
        have wv : IntKind.i64.wrap (IntKind.i64.wrap (IntKind.i64.wrap (G p (midS (sw p i)) / 256 % 256) * 256) + IntKind.i64.wrap (G p (midS (sw p i)) % 256)) = G p (midS (sw p i)) := by
          rw [wI (x := G p (midS (sw p i)) / 256 % 256) (by omega) (by omega), wI (x := G p (midS (sw p i)) / 256 % 256 * 256) (by omega) (by omega), wI (x := G p (midS (sw p i)) % 256) (by omega) (by omega), wI (by omega) (by omega)]
          omega
        have g8 : G p 8 > 1 := by omega
        simp only [f1, Bool.false_eq_true, if_false, g8, decide_true, if_true, hpo, b1, b2, b3, wv, e2, Option.bind_some, Bool.not_true]
        rfl

theorem right_true {p : List Int} (hp : PageOK p) : m_ticketlinelaw14_right p = some true := by
  unfold m_ticketlinelaw14_right m_ticketlinelaw14_right_a
  have h9 := hp.2.G 9
  have h10 := hp.2.G 10
  have h11 := hp.2.G 11
  have hP := slot_pair hp 0
  have hC := slot_Child hp 0
  rw [slot_Valid hp, ref_Valid hp, slot_Pairs hp, slot_Level hp, slot_Len hp, slot_Next hp]
  cases hv : validB p with
  | false =>
    simp only [hv, Bool.false_eq_true, if_false] at hP hC
    have e1 := keyed14 hp hP
    have e2 := child14 hC
    have hL := slot_Load hp
    have hG := slot_Gap hp
    have hF := slot_Fences hp
    simp only [hv, Bool.false_eq_true, if_false] at hL hG hF
    have e3 : m_ticketlinelaw14_weighs p 0 0 12 = some true := by
      unfold m_ticketlinelaw14_weighs; rw [hL, hG]; rfl
    have e4 : m_ticketlinelaw14_fenced p ⟨#[]⟩ ⟨#[]⟩ 12 = some true := by
      unfold m_ticketlinelaw14_fenced; rw [hF]; simp [strEq_refl]
    simp [e1, e2, e3, e4]
  | true =>
    obtain ⟨hc, hc9⟩ := count_le hp hv
    have h1 := head_spec (valid_head hv)
    have hl : ((pairsS p).length : Int) = count p := by simp [pairsS, pairsTo_length]
    have hS : SmallL (pairsS p) := pairsTo_small (by omega)
    have hL := slot_Load hp
    have hG := slot_Gap hp
    have hF := slot_Fences hp
    simp only [hv, if_true] at hL hG hF
    have w8 : IntKind.i64.wrap (IntKind.i64.wrap (G p 8) - 1) = G p 8 - 1 := by rw [wI (x := G p 8) (by omega) (by omega), wI (by omega) (by omega)]
    have w10 : IntKind.i64.wrap (G p 10) = G p 10 := wI (by omega) (by omega)
    have w11 : IntKind.i64.wrap (IntKind.i64.wrap (IntKind.i64.wrap (G p 11) - 20) - (count p : Int)) = G p 11 - G p 9 - 20 := by
      rw [wI (x := G p 11) (by omega) (by omega), wI (x := G p 11 - 20) (by omega) (by omega), wI (by omega) (by omega)]; omega
    have e3 : m_ticketlinelaw14_weighs p (sumC (pairsS p)) (G p 11 - G p 9 - 20) 0 = some true := by
      unfold m_ticketlinelaw14_weighs; rw [hL, hG]; simp
    have e4 : m_ticketlinelaw14_fenced p (lowS p) (highS p) 0 = some true := by
      unfold m_ticketlinelaw14_fenced; rw [hF]; simp [strEq_refl]
    have e5 := right_l0 hp hv (count p + 2) FUEL FUEL (-1) (by omega) (by omega) (by have := FUEL_big; omega)
    simp only [Option.bind_some, beq_self_eq_true, Bool.not_true, Bool.false_eq_true, if_false, if_true, ref_Pairs hp hv, ref_Fences hp, same_refl (pairsS p) hS.1, bne_self_eq_false, rd_G, w8, hl, w10, ref_Sum hS, w11, e3, e4, e5]

theorem known14 : m_ticketlinelaw14_known = some true := by kernel_rfl

theorem slotCosts_true (a b : ByteArray) : m_ticketlinelaw14_SlotCosts a b = some true := by
  unfold m_ticketlinelaw14_SlotCosts
  by_cases h1 : (a.size : Int) > 300
  · simp [h1, known14]
  by_cases h2 : (b.size : Int) > 300
  · simp [h1, h2, known14]
  simp only [h1, h2, decide_false, Bool.false_eq_true, if_false]
  rw [slot_Cost (by omega) (by omega), ref_Cost (x := (a, (b, ()))) (by dsimp only; omega) (by dsimp only; omega)]
  simp [known14]

/-! ### SlotWords -/
theorem PageOK.set {p : List Int} (h : PageOK p) (i : Nat) {x : Int} (h0 : 0 ≤ x) (h1 : x < 18446744073709551616) : PageOK (p.set i x) := by
  refine ⟨by simpa using h.1, fun y hy => ?_⟩
  rcases List.mem_or_eq_of_mem_set hy with hy | rfl
  · exact h.2 y hy
  · exact ⟨h0, h1⟩
theorem page_zero : PageOK (List.replicate 128 0) := ⟨by simp, fun x hx => by rw [List.mem_replicate] at hx; omega⟩

theorem slotWords_l0 {l : List Int} (hl : U64 l) (hlen : l.length ≤ 128) : ∀ (m n N i : Nat) (p : List Int), i + m = l.length → m < n → PageOK p → m_ticketlinelaw14_SlotWords_l0 N n l i p = some true := by
  intro m
  induction m with
  | zero =>
    intro n N i p hm hn hp
    obtain ⟨n, rfl⟩ : ∃ q, n = q + 1 := ⟨n - 1, by omega⟩
    obtain rfl : i = l.length := by omega
    simp [m_ticketlinelaw14_SlotWords_l0, m_ticketlinelaw14_SlotWords_l0_b, right_true hp, known14]
  | succ m ih =>
    intro n N i p hm hn hp
    obtain ⟨n, rfl⟩ : ∃ q, n = q + 1 := ⟨n - 1, by omega⟩
    have hg := hl.G i
    have := ih n N (i + 1) (p.set i (G l i)) (by omega) (by omega) (hp.set i hg.1 hg.2)
    have w2 : IntKind.i64.wrap ((i : Int) + 1) = ((i + 1 : Nat) : Int) := by rw [wI (by omega) (by omega)]; omega
    simp only [m_ticketlinelaw14_SlotWords_l0, m_ticketlinelaw14_SlotWords_l0_b, show (i : Int) < l.length by omega, show (i : Int) < 128 by omega, decide_true, if_true, Int.natCast_nonneg, w2, Int.toNat_natCast, rd_G, this]
theorem slotWords_true {l : List Int} (hl : U64 l) : m_ticketlinelaw14_SlotWords l = some true := by
  unfold m_ticketlinelaw14_SlotWords m_ticketlinelaw14_SlotWords_a
  by_cases h : (l.length : Int) > 128
  · simp [h, known14]
  · have := slotWords_l0 hl (by omega) l.length FUEL FUEL 0 (List.replicate 128 0) (by omega) (by have := FUEL_big; omega) page_zero
    simp only [h, decide_false, Bool.false_eq_true, if_false]
    exact this
end Go.Ev.L
