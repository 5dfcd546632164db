/- Law 15: a plan's own keys; the stage's theorem. -/
import Derived.Test.YthbmjicmhikpgaaS2
set_option linter.unusedVariables false
set_option linter.unusedSimpArgs false
set_option maxRecDepth 10000
namespace Go.Ev.L
open Go Go.Ev Go.Ev.M

theorem searchOwn_l0 {l : List Pr} (hl : l.length ≤ 60 ∧ ∀ x, x ∈ l → x.1.size ≤ 60 ∧ x.2.1.size ≤ 60) (a b : Int) (lo hi : ByteArray) (gaps : List Int) (sp : List Sp) {p : List Int} (hp : PageOK p) : ∀ (m n N i : Nat), i + m = l.length → m < n →
    m_ticketlinelaw15_SearchOwn_l0 N n i a b lo hi l gaps sp p = some true := by
  intro m
  induction m with
  | zero =>
    intro n N i hm hn
    obtain ⟨n, rfl⟩ : ∃ q, n = q + 1 := ⟨n - 1, by omega⟩
    simp [m_ticketlinelaw15_SearchOwn_l0, m_ticketlinelaw15_SearchOwn_l0_b, show ¬ (i : Int) < (l.length : Int) by omega, known15]
  | succ m ih =>
    intro n N i hm hn
    obtain ⟨n, rfl⟩ : ∃ q, n = q + 1 := ⟨n - 1, by omega⟩
    have hi' : i < l.length := by omega
    have hz := hl.2 l[i] (List.getElem_mem hi')
    have w2 : IntKind.i64.wrap ((i : Int) + 1) = ((i + 1 : Nat) : Int) := by rw [wI (by omega) (by omega)]; omega
    have IH := ih n N (i + 1) (by omega) (by omega)
    have hsz : (l[i]).1.size + (⟨#[0]⟩ : ByteArray).size < 9223372036854775808 := by
      have : (⟨#[0]⟩ : ByteArray).size = 1 := rfl
      omega
    simp only [m_ticketlinelaw15_SearchOwn_l0, m_ticketlinelaw15_SearchOwn_l0_b, show (i : Int) < (l.length : Int) by omega, decide_true, if_true, Int.natCast_nonneg, rd_GP, GP_get hi', right15 hp, Option.bind_some, Bool.not_true, Bool.false_eq_true, if_false, hsz, w2, IH]
    by_cases c : ((l[i]).1.size : Int) > 0
    · have w1 : IntKind.i64.wrap (((l[i]).1.size : Int) - 1) = ((l[i]).1.size : Int) - 1 := wI (by omega) (by omega)
      simp only [c, decide_true, if_true, w1, show (0 : Int) ≤ ((l[i]).1.size : Int) - 1 by omega, show ((l[i]).1.size : Int) - 1 ≤ ((l[i]).1.size : Int) by omega]
    · simp only [c, decide_false, Bool.false_eq_true, if_false]
theorem searchOwn_true {x : Pln} (h : PlnOK x) : m_ticketlinelaw15_SearchOwn x = some true := by
  obtain ⟨p, b, h1, h2, h3, h4⟩ := plan_used h
  unfold m_ticketlinelaw15_SearchOwn m_ticketlinelaw15_SearchOwn_a
  rw [h4]
  simp only [Option.bind_some, known15]
  by_cases c : (b && validB p) = true
  · have hb : b = true := by simp only [Bool.and_eq_true] at c; exact c.1
    simp only [c, Bool.not_true, Bool.false_eq_true, if_false]
    exact searchOwn_l0 (h3 hb) _ _ _ _ _ _ h2 _ FUEL FUEL 0 (Nat.zero_add _) (by have := FUEL_big; have := (h3 hb).1; omega)
  · have c' : (b && validB p) = false := by simpa using c
    simp only [c', Bool.not_false, if_true]

theorem downI_iff (key : ByteArray) {l : List Pr} (hs : srt l = true) {i : Nat} (hi : i < l.length) : strLt key (l[i]).1 = false ↔ (i : Int) ≤ downI key l := by
  by_cases c1 : i < posS key l
  · have := posS_lt hi c1
    have h2 : (i : Int) ≤ downI key l := by unfold downI; split <;> omega
    simp only [strLt_asymm this, h2]
  · by_cases c2 : i = posS key l
    · have h3 := isS_get (key := key) (l := l) (i := i) c2.symm hi
      have h4 := posS_at (key := key) (l := l) (by omega)
      simp only [← c2] at h4
      unfold downI
      rw [h3]
      rcases strLt_tri key (l[i]).1 with h | h | h
      · rw [h, strEq_false (fun e => by rw [e, strLt_irrefl] at h; cases h)]; simp; omega
      · rw [← h, strLt_irrefl, strEq_refl]; simp; omega
      · rw [h4] at h; cases h
    · have h5 := posS_at (key := key) (l := l) (by omega)
      have h6 := srt_lt hs (posS key l) i (by omega) hi
      have h7 : strLt key (l[i]).1 = true := by
        rcases strLt_tri key (l[posS key l]'(by omega)).1 with h | h | h
        · exact strLt_trans h h6
        · rw [h]; exact h6
        · rw [h5] at h; cases h
      rw [h7]
      have : ¬ (i : Int) ≤ downI key l := by unfold downI; split <;> omega
      simp [this]

theorem posS_own {l : List Pr} (hs : srt l = true) {i : Nat} (hi : i < l.length) : posS (l[i]).1 l = i ∧ isS (l[i]).1 l = true := by
  have e : posS (l[i]).1 l = i := posS_eq (by omega) (fun j hj hji => srt_lt hs j i hji hi) (fun _ => strLt_irrefl _)
  exact ⟨e, by rw [isS_get e hi, strEq_refl]⟩

section
variable {p : List Int} (hp : PageOK p) (hs : srtB p = true)
include hp hs

theorem searchHolds_end (key : ByteArray) (n N : Nat) (k : Int) (hk : (pairsS p).length ≤ k) : m_ticketlinelaw15_SearchHolds_l1 N (n + 1) key (posS key (pairsS p)) (isS key (pairsS p)) k p (pairsS p) = some true := by
  obtain ⟨h1, h2⟩ := srtB_spec hs
  obtain ⟨hl, hlc⟩ := pairsS_len hp h1
  have hh := head_spec (valid_head h1)
  have hd := downI_range key (pairsS p)
  have hD := search_Down hp key
  simp only [hs, if_true] at hD
  simp only [m_ticketlinelaw15_SearchHolds_l1, m_ticketlinelaw15_SearchHolds_l1_b, show ¬ k < ((pairsS p).length : Int) by omega, decide_false, Bool.false_eq_true, if_false, rd_G, known15, Option.bind_some]
  by_cases c : G p 8 > 1
  · have c1 : ¬ G p 8 = 1 := by omega
    simp only [c1, if_false] at hD
    by_cases c2 : downI key (pairsS p) < 0
    · simp only [c2, if_true] at hD
      simp only [c, decide_true, if_true, hD, Option.bind_some, show ((9 : Int) == 0) = false by decide, show ((9 : Int) != 0) = true by decide, Bool.false_eq_true, if_false, bne_self_eq_false, beq_self_eq_true]
      by_cases c3 : ((pairsS p).length : Int) > 0
      · have hlt : 0 < (pairsS p).length := by omega
        have hi := downI_iff key h2 hlt
        have hn : strLt key ((pairsS p)[0]).1 = true := by
          cases hx : strLt key ((pairsS p)[0]).1 with
          | true => rfl
          | false => have := hi.1 hx; omega
        have hg : GP (pairsS p) 0 = (pairsS p)[0] := GP_get hlt
        simp only [c3, decide_true, if_true, show (0 : Int) < ((pairsS p).length : Int) by omega, rd_GP, hg, le_not_lt, hn, Bool.not_true, Bool.false_eq_true, if_false]
      · simp only [c3, decide_false, Bool.false_eq_true, if_false]
    · simp only [c2, if_false] at hD
      have hgood := valid_good hp h1 (j := (downI key (pairsS p)).toNat) (by omega)
      rw [show (((downI key (pairsS p)).toNat : Nat) : Int) = downI key (pairsS p) by omega] at hgood
      have hch := hgood.child (by omega)
      have hlt : (downI key (pairsS p)).toNat < (pairsS p).length := by omega
      have hg := GP_get hlt
      rw [show (((downI key (pairsS p)).toNat : Nat) : Int) = downI key (pairsS p) by omega] at hg
      have hk1 := (downI_iff key h2 hlt).2 (by omega)
      have w1 : IntKind.i64.wrap (downI key (pairsS p) + 1) = downI key (pairsS p) + 1 := wI (by omega) (by omega)
      simp only [c, decide_true, if_true, hD, Option.bind_some, beq_self_eq_true, c2, decide_false, Bool.false_eq_true, if_false, show ¬ downI key (pairsS p) ≥ ((pairsS p).length : Int) by omega, show ¬ G p (midS (sw p (downI key (pairsS p)))) < 1 by omega, show ¬ G p (midS (sw p (downI key (pairsS p)))) > 511 by omega,
        show (0 : Int) ≤ downI key (pairsS p) by omega, show downI key (pairsS p) < ((pairsS p).length : Int) by omega, rd_GP, hg, le_not_lt, hk1, Bool.not_false, Bool.not_true, w1, bne_self_eq_false, show ((0 : Int) == 9) = false by decide]
      by_cases c3 : downI key (pairsS p) + 1 < ((pairsS p).length : Int)
      · have hlt2 : (downI key (pairsS p)).toNat + 1 < (pairsS p).length := by omega
        have hg2 := GP_get hlt2
        rw [show (((downI key (pairsS p)).toNat + 1 : Nat) : Int) = downI key (pairsS p) + 1 by omega] at hg2
        have hn : strLt key ((pairsS p)[(downI key (pairsS p)).toNat + 1]).1 = true := by
          cases hx : strLt key ((pairsS p)[(downI key (pairsS p)).toNat + 1]).1 with
          | true => rfl
          | false => have := (downI_iff key h2 hlt2).1 hx; omega
        simp only [c3, decide_true, if_true, show (0 : Int) ≤ downI key (pairsS p) + 1 by omega, hg2, hn, Bool.not_true, Bool.false_eq_true, if_false]
      · simp only [c3, decide_false, Bool.false_eq_true, if_false]
  · simp only [c, decide_false, Bool.false_eq_true, if_false]

theorem searchHolds_l1 (key : ByteArray) : ∀ (m n N k : Nat), k + m = (pairsS p).length → m < n → m_ticketlinelaw15_SearchHolds_l1 N n key (posS key (pairsS p)) (isS key (pairsS p)) k p (pairsS p) = some true := by
  obtain ⟨h1, h2⟩ := srtB_spec hs
  obtain ⟨hl, hlc⟩ := pairsS_len hp h1
  intro m
  induction m with
  | zero =>
    intro n N k hk hn
    obtain ⟨n, rfl⟩ : ∃ q, n = q + 1 := ⟨n - 1, by omega⟩
    exact searchHolds_end hp hs key n N k (by omega)
  | succ m ih =>
    intro n N k hk hn
    obtain ⟨n, rfl⟩ : ∃ q, n = q + 1 := ⟨n - 1, by omega⟩
    have hlt : k < (pairsS p).length := by omega
    have w2 : IntKind.i64.wrap ((k : Int) + 1) = ((k + 1 : Nat) : Int) := by rw [wI (by omega) (by omega)]; omega
    have IH := ih n N (k + 1) (by omega) (by omega)
    simp only [m_ticketlinelaw15_SearchHolds_l1, m_ticketlinelaw15_SearchHolds_l1_b, show (k : Int) < ((pairsS p).length : Int) by omega, decide_true, if_true, Int.natCast_nonneg, rd_GP, GP_get hlt, w2, IH]
    by_cases c : k < posS key (pairsS p)
    · have hx := posS_lt hlt c
      have he : strEq ((pairsS p)[k]).1 key = false := strEq_false fun e => by rw [e, strLt_irrefl] at hx; cases hx
      simp only [show (k : Int) < (posS key (pairsS p) : Int) by omega, decide_true, if_true, hx, Bool.not_true, Bool.false_eq_true, if_false, show ¬ (k : Int) ≥ (posS key (pairsS p) : Int) by omega, decide_false, he]
    · have hx : strLt ((pairsS p)[k]).1 key = false := by
        by_cases e : k = posS key (pairsS p)
        · have h4 := posS_at (key := key) (l := pairsS p) (by omega)
          simp only [← e] at h4
          exact h4
        · have h4 := posS_at (key := key) (l := pairsS p) (by omega)
          have h6 := srt_lt h2 (posS key (pairsS p)) k (by omega) hlt
          rw [Bool.eq_false_iff]
          intro h'
          rw [strLt_trans h6 h'] at h4
          cases h4
      simp only [show ¬ (k : Int) < (posS key (pairsS p) : Int) by omega, decide_false, Bool.false_eq_true, if_false, show (k : Int) ≥ (posS key (pairsS p) : Int) by omega, decide_true, if_true, hx]
      by_cases he : ((pairsS p)[k]).1 = key
      · obtain ⟨q1, q2⟩ := posS_own h2 hlt
        rw [he] at q1 q2
        simp only [strEq_iff.2 he, if_true, q2, Bool.not_true, Bool.false_eq_true, if_false, q1, bne_self_eq_false]
      · simp only [strEq_false he, Bool.false_eq_true, if_false]

theorem searchHolds_l0 (key : ByteArray) : ∀ (m n N i : Nat), 10000 < N → i + m = (pairsS p).length → m < n → m_ticketlinelaw15_SearchHolds_l0 N n key i p (pairsS p) = some true := by
  obtain ⟨h1, h2⟩ := srtB_spec hs
  obtain ⟨hl, hlc⟩ := pairsS_len hp h1
  intro m
  induction m with
  | zero =>
    intro n N i hN hk hn
    obtain ⟨n, rfl⟩ : ∃ q, n = q + 1 := ⟨n - 1, by omega⟩
    have hF := search_Find hp key
    simp only [hs, if_true] at hF
    have hpl := posS_le key (pairsS p)
    have := searchHolds_l1 hp hs key (pairsS p).length N N 0 (by omega) (by omega)
    simp only [m_ticketlinelaw15_SearchHolds_l0, m_ticketlinelaw15_SearchHolds_l0_b, show ¬ (i : Int) < ((pairsS p).length : Int) by omega, decide_false, Bool.false_eq_true, if_false, hF, Option.bind_some, bne_self_eq_false, show ¬ (posS key (pairsS p) : Int) < 0 by omega, show ¬ (posS key (pairsS p) : Int) > ((pairsS p).length : Int) by omega]
    exact this
  | succ m ih =>
    intro n N i hN hk hn
    obtain ⟨n, rfl⟩ : ∃ q, n = q + 1 := ⟨n - 1, by omega⟩
    have hlt : i < (pairsS p).length := by omega
    have w2 : IntKind.i64.wrap ((i : Int) + 1) = ((i + 1 : Nat) : Int) := by rw [wI (by omega) (by omega)]; omega
    have IH := ih n N (i + 1) hN (by omega) (by omega)
    obtain ⟨q1, q2⟩ := posS_own h2 hlt
    have hF := search_Find hp ((pairsS p)[i]).1
    simp only [hs, if_true, q1, q2] at hF
    simp only [m_ticketlinelaw15_SearchHolds_l0, m_ticketlinelaw15_SearchHolds_l0_b, show (i : Int) < ((pairsS p).length : Int) by omega, decide_true, if_true, Int.natCast_nonneg, rd_GP, GP_get hlt, finds15 hF, Option.bind_some, Bool.not_true, Bool.false_eq_true, if_false, w2, IH]
end

theorem searchHolds_true {x : Pln} (h : PlnOK x) (key : ByteArray) : m_ticketlinelaw15_SearchHolds x key = some true := by
  obtain ⟨p, b, h1, h2, h3, h4⟩ := plan_used h
  unfold m_ticketlinelaw15_SearchHolds m_ticketlinelaw15_SearchHolds_a
  rw [h4]
  simp only [Option.bind_some, known15]
  by_cases c : (b && validB p) = true
  · by_cases c2 : (key.size : Int) > 60
    · simp [c, c2]
    · simp only [c, Bool.not_true, Bool.false_eq_true, if_false, c2, decide_false, search_Sorted h2, Option.bind_some]
      cases hs : srtB p with
      | false => rfl
      | true =>
        obtain ⟨v1, v2⟩ := srtB_spec hs
        obtain ⟨hl, hlc⟩ := pairsS_len h2 v1
        have := searchHolds_l0 h2 hs key (pairsS p).length FUEL FUEL 0 (by have := FUEL_big; omega) (by omega) (by have := FUEL_big; omega)
        simp only [Bool.not_true, Bool.false_eq_true, if_false, ref_Pairs h2 v1, Option.bind_some]
        exact this
  · have c' : (b && validB p) = false := by simpa using c
    simp only [c', Bool.not_false, if_true]
end Go.Ev.L
