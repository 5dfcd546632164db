/- Where slots are parted. -/
import Derived.Test.YthbmjicmhikpgaaO5
set_option linter.unusedVariables false
set_option linter.unusedSimpArgs false
set_option linter.unusedSectionVars false
set_option maxRecDepth 10000
namespace Go.Ev.L
open Go Go.Ev Go.Ev.M

theorem sumC_append (a b : List Pr) : sumC (a ++ b) = sumC a + sumC b := recs_sum.sumC_append a b
def pre (l : List Pr) (i : Nat) : Int := sumC (l.take i)
theorem pre_split (l : List Pr) (i : Nat) : pre l i + sumC (l.drop i) = sumC l := by
  unfold pre; rw [← sumC_append, List.take_append_drop]
theorem pre_succ {l : List Pr} {i : Nat} (hi : i < l.length) : pre l (i + 1) = pre l i + costS l[i] := by
  unfold pre; rw [List.take_succ_eq_append_getElem hi, sumC_append]; simp [sumC]
theorem pre_zero (l : List Pr) : pre l 0 = 0 := by simp [pre, sumC]
theorem pre_len (l : List Pr) : pre l l.length = sumC l := by simp [pre]
theorem SmallL.take {l : List Pr} (h : SmallL l) (i : Nat) : SmallL (l.take i) := ⟨by rw [List.length_take]; have := h.1; omega, fun x hx => h.2 x (List.mem_of_mem_take hx)⟩
theorem SmallL.drop {l : List Pr} (h : SmallL l) (i : Nat) : SmallL (l.drop i) := ⟨by rw [List.length_drop]; have := h.1; omega, fun x hx => h.2 x (List.mem_of_mem_drop hx)⟩
theorem sumC_le : ∀ {l : List Pr}, (∀ x, x ∈ l → x.1.size ≤ 1000 ∧ x.2.1.size ≤ 1000) → 0 ≤ sumC l ∧ sumC l ≤ 1000 * l.length := by
  intro l
  induction l with
  | nil => intro _; simp [sumC]
  | cons x r ih =>
    intro h
    have := costS_range (h x (List.mem_cons_self ..))
    have := ih fun y hy => h y (List.mem_cons_of_mem _ hy)
    simp only [sumC, List.length_cons]; omega
theorem pre_range {l : List Pr} (h : SmallL l) (i : Nat) : 0 ≤ pre l i ∧ pre l i ≤ sumC l ∧ sumC l ≤ 1000000 := by
  have h1 := sumC_le (h.take i).2
  have h2 := sumC_le (h.drop i).2
  have h3 := sumC_le h.2
  have h4 := pre_split l i
  have := h.1
  unfold pre at *
  omega
def distS (l : List Pr) (i : Nat) : Int := if 2 * pre l i - sumC l < 0 then 0 - (2 * pre l i - sumC l) else 2 * pre l i - sumC l
def placeL (l : List Pr) (i : Nat) : Nat → Int → Int → Int
  | 0, _, a => a
  | m + 1, best, a => if distS l i < best then placeL l (i + 1) m (distS l i) i else placeL l (i + 1) m best a
def placeS (l : List Pr) : Int := placeL l 1 (l.length - 1) (sumC l + 1) 0

theorem place_l1 {l : List Pr} (hsm : SmallL l) {bf : List Int} (hb : bf.length = l.length + 1) (hbf : ∀ j : Nat, j ≤ l.length → G bf j = pre l j) : ∀ (m n N i : Nat) (best a : Int), i + m = max i l.length → m < n → i ≤ 2000 →
    m_split_place_l1 N n l (sumC l) best a i bf = some (placeL l i m best a) := by
  have hlen := hsm.1
  intro m
  induction m with
  | zero =>
    intro n N i best a hm hn hi
    obtain ⟨n, rfl⟩ : ∃ q, n = q + 1 := ⟨n - 1, by omega⟩
    simp only [m_split_place_l1, m_split_place_l1_b, show ¬ (i : Int) < (l.length : Int) by omega, decide_false, Bool.false_eq_true, if_false, placeL]
  | succ m ih =>
    intro n N i best a hm hn hi
    obtain ⟨n, rfl⟩ : ∃ q, n = q + 1 := ⟨n - 1, by omega⟩
    have hr := pre_range hsm i
    have w2 : IntKind.i64.wrap ((i : Int) + 1) = ((i + 1 : Nat) : Int) := by rw [wI (by omega) (by omega)]; omega
    have w3 : IntKind.i64.wrap (IntKind.i64.wrap (2 * pre l i) - sumC l) = 2 * pre l i - sumC l := by rw [wI (x := 2 * pre l i) (by omega) (by omega), wI (by omega) (by omega)]
    have w4 : IntKind.i64.wrap (0 - (2 * pre l i - sumC l)) = 0 - (2 * pre l i - sumC l) := wI (by omega) (by omega)
    have I1 := fun b a => ih n N (i + 1) b a (by omega) (by omega) (by omega)
    simp only [m_split_place_l1, m_split_place_l1_b, show (i : Int) < (l.length : Int) by omega, decide_true, if_true, Int.natCast_nonneg, hb, show (i : Int) < ((l.length + 1 : Nat) : Int) by omega, rd_G, hbf i (by omega), w3, w4, w2, I1, placeL, distS]
    by_cases c : 2 * pre l i - sumC l < 0
    · simp only [c, decide_true, if_true]
      by_cases d : 0 - (2 * pre l i - sumC l) < best
      · simp only [d, decide_true, if_true]
      · simp only [d, decide_false, Bool.false_eq_true, if_false]
    · simp only [c, decide_false, Bool.false_eq_true, if_false]
      by_cases d : 2 * pre l i - sumC l < best
      · simp only [d, decide_true, if_true]
      · simp only [d, decide_false, Bool.false_eq_true, if_false]

theorem place_l0' {l : List Pr} (hsm : SmallL l) : ∀ (m n N i : Nat) (bf : List Int), 10000 < N → i + m = l.length → m < n → bf.length = l.length + 1 → (∀ j : Nat, j ≤ i → G bf j = pre l j) →
    m_split_place_l0 N n l l l.length i bf = some (placeS l) := by
  have hlen := hsm.1
  intro m
  induction m with
  | zero =>
    intro n N i bf hN hm hn hb hbf
    obtain ⟨n, rfl⟩ : ∃ q, n = q + 1 := ⟨n - 1, by omega⟩
    obtain rfl : i = l.length := by omega
    have hr := pre_range hsm l.length
    have w1 : IntKind.i64.wrap (sumC l + 1) = sumC l + 1 := wI (by omega) (by omega)
    have := place_l1 hsm hb hbf (l.length - 1) N N 1 (sumC l + 1) 0 (by omega) (by omega) (by omega)
    simp only [m_split_place_l0, m_split_place_l0_b, Int.lt_irrefl, decide_false, Bool.false_eq_true, if_false, Int.natCast_nonneg, if_true, hb, show (l.length : Int) < ((l.length + 1 : Nat) : Int) by omega, rd_G, hbf l.length (by omega), pre_len, w1]
    exact this
  | succ m ih =>
    intro n N i bf hN hm hn hb hbf
    obtain ⟨n, rfl⟩ : ∃ q, n = q + 1 := ⟨n - 1, by omega⟩
    have hi : i < l.length := by omega
    have hx := hsm.2 l[i] (List.getElem_mem hi)
    have hcr := costS_range hx
    have hr := pre_range hsm i
    have hcost : m_slot_Cost (l[i]).1 (l[i]).2.1 = some (costS l[i]) := slot_Cost (by omega) (by omega)
    have w2 : IntKind.i64.wrap ((i : Int) + 1) = ((i + 1 : Nat) : Int) := by rw [wI (by omega) (by omega)]; omega
    have w3 : IntKind.i64.wrap (pre l i + costS l[i]) = pre l (i + 1) := by rw [pre_succ hi, wI (by omega) (by omega)]
    simp only [m_split_place_l0, m_split_place_l0_b, show (i : Int) < (l.length : Int) by omega, decide_true, if_true, Int.natCast_nonneg, hb, show (i : Int) < ((l.length + 1 : Nat) : Int) by omega, rd_G, rd_GP, GP_get hi, hcost, Option.bind_some, w2, show ((i + 1 : Nat) : Int) < ((l.length + 1 : Nat) : Int) by omega, hbf i (by omega), w3, Int.toNat_natCast]
    refine ih n N (i + 1) _ hN (by omega) (by omega) (by rw [List.length_set]; exact hb) fun j hj => ?_
    rw [G_set (by omega) _ (by omega)]
    by_cases e : j = i + 1
    · rw [if_pos (by omega), e]
    · rw [if_neg (by omega)]; exact hbf j (by omega)
theorem split_place {l : List Pr} (hsm : SmallL l) : m_split_place l = some (placeS l) := by
  unfold m_split_place m_split_place_a
  have hlen := hsm.1
  have w1 : IntKind.i64.wrap ((l.length : Int) + 1) = (l.length : Int) + 1 := wI (by omega) (by omega)
  have hf : fits ((l.length : Int) + 1).toNat 8 := by unfold fits; omega
  simp only [w1, show (0 : Int) ≤ (l.length : Int) + 1 by omega, Int.le_refl, if_true, hf]
  refine place_l0' hsm l.length FUEL FUEL 0 _ (by have := FUEL_big; omega) (by omega) (by have := FUEL_big; omega) (by rw [List.length_replicate]; omega) fun j hj => ?_
  obtain rfl : j = 0 := by omega
  rw [pre_zero]
  unfold G
  rw [List.getD_eq_getElem?_getD, List.getElem?_replicate]; split <;> rfl

theorem win_take {l : List Pr} {i : Nat} : win l 0 ((i : Int) - 0) = l.take i := by
  unfold win; simp
theorem win_drop {l : List Pr} {i : Nat} : win l i ((l.length : Int) - i) = l.drop i := by
  unfold win
  rw [Int.toNat_natCast, List.take_of_length_le (by rw [List.length_drop]; omega)]
theorem refPlace_l0 {l : List Pr} (hsm : SmallL l) : ∀ (m n N i : Nat) (best a : Int), i + m = max i l.length → m < n → i ≤ 2000 →
    m_ticketlineref17_Place_l0 N n l best a i = some (placeL l i m best a) := by
  have hlen := hsm.1
  intro m
  induction m with
  | zero =>
    intro n N i best a hm hn hi
    obtain ⟨n, rfl⟩ : ∃ q, n = q + 1 := ⟨n - 1, by omega⟩
    simp only [m_ticketlineref17_Place_l0, m_ticketlineref17_Place_l0_b, show ¬ (i : Int) < (l.length : Int) by omega, decide_false, Bool.false_eq_true, if_false, placeL]
  | succ m ih =>
    intro n N i best a hm hn hi
    obtain ⟨n, rfl⟩ : ∃ q, n = q + 1 := ⟨n - 1, by omega⟩
    have hr := pre_range hsm i
    have hsp := pre_split l i
    have w2 : IntKind.i64.wrap ((i : Int) + 1) = ((i + 1 : Nat) : Int) := by rw [wI (by omega) (by omega)]; omega
    have w3 : IntKind.i64.wrap (pre l i - sumC (l.drop i)) = 2 * pre l i - sumC l := by rw [wI (by omega) (by omega)]; omega
    have w4 : IntKind.i64.wrap (0 - (2 * pre l i - sumC l)) = 0 - (2 * pre l i - sumC l) := wI (by omega) (by omega)
    have hmx : mx (2 * pre l i - sumC l) (0 - (2 * pre l i - sumC l)) = distS l i := by
      unfold mx distS; split <;> split <;> omega
    have I1 := fun b a => ih n N (i + 1) b a (by omega) (by omega) (by omega)
    have s1 : m_ticketlineref14_Sum (l.take i) = some (pre l i) := ref_Sum (hsm.take i)
    simp only [m_ticketlineref17_Place_l0, m_ticketlineref17_Place_l0_b, show (i : Int) < (l.length : Int) by omega, decide_true, if_true, Int.natCast_nonneg, show (i : Int) ≤ (l.length : Int) by omega, Int.le_refl, win_take, win_drop, s1, ref_Sum (hsm.drop i), Option.bind_some, w2, w3, w4, hmx, I1, placeL]
    by_cases d : distS l i < best
    · simp only [d, decide_true, if_true]
    · simp only [d, decide_false, Bool.false_eq_true, if_false]
theorem distS_le {l : List Pr} (hsm : SmallL l) (i : Nat) : 0 ≤ distS l i ∧ distS l i ≤ sumC l := by
  have hr := pre_range hsm i
  unfold distS; split <;> omega
theorem ref17_Place {l : List Pr} (hsm : SmallL l) (hs : sumC l < 1000) (h2 : 2 ≤ l.length) : m_ticketlineref17_Place l = some (placeS l) := by
  unfold m_ticketlineref17_Place m_ticketlineref17_Place_a placeS
  have hlen := hsm.1
  refine (refPlace_l0 hsm (l.length - 1) FUEL FUEL 1 1000 0 (by omega) (by have := FUEL_big; omega) (by omega)).trans ?_
  obtain ⟨m, hm⟩ : ∃ m, l.length - 1 = m + 1 := ⟨l.length - 2, by omega⟩
  have hd := distS_le hsm 1
  rw [hm]
  simp only [placeL]
  rw [if_pos (by omega), if_pos (by omega)]

theorem placeL_spec {l : List Pr} : ∀ (m i a : Nat), ∃ r : Nat, placeL l i m (distS l a) a = (r : Int) ∧ (r = a ∨ (i ≤ r ∧ r < i + m)) ∧ distS l r ≤ distS l a ∧ ∀ j : Nat, i ≤ j → j < i + m → distS l r ≤ distS l j := by
  intro m
  induction m with
  | zero => intro i a; exact ⟨a, rfl, .inl rfl, Int.le_refl _, fun j h1 h2 => by omega⟩
  | succ m ih =>
    intro i a
    simp only [placeL]
    by_cases c : distS l i < distS l a
    · rw [if_pos c]
      obtain ⟨r, e, h1, h2, h3⟩ := ih (i + 1) i
      refine ⟨r, e, by omega, by omega, fun j k1 k2 => ?_⟩
      by_cases ej : j = i
      · subst ej; exact h2
      · exact h3 j (by omega) (by omega)
    · rw [if_neg c]
      obtain ⟨r, e, h1, h2, h3⟩ := ih (i + 1) a
      refine ⟨r, e, by omega, h2, fun j k1 k2 => ?_⟩
      by_cases ej : j = i
      · subst ej; omega
      · exact h3 j (by omega) (by omega)
theorem placeS_spec {l : List Pr} (hsm : SmallL l) (h2 : 2 ≤ l.length) : ∃ r : Nat, placeS l = (r : Int) ∧ 1 ≤ r ∧ r < l.length ∧ ∀ j : Nat, 1 ≤ j → j < l.length → distS l r ≤ distS l j := by
  unfold placeS
  obtain ⟨m, hm⟩ : ∃ m, l.length - 1 = m + 1 := ⟨l.length - 2, by omega⟩
  have hd := distS_le hsm 1
  rw [hm]
  simp only [placeL]
  rw [if_pos (by omega)]
  obtain ⟨r, e, h1, h3, h4⟩ := placeL_spec (l := l) m 2 1
  refine ⟨r, e, by omega, by omega, fun j k1 k2 => ?_⟩
  by_cases ej : j = 1
  · subst ej; exact h3
  · exact h4 j (by omega) (by omega)

/-- both parts are nearly as heavy -/
theorem place_even {l : List Pr} (hsm : SmallL l) (h2 : 2 ≤ l.length) (h9 : ∀ x, x ∈ l → costS x ≤ 9) {r : Nat} (hr : ∀ j : Nat, 1 ≤ j → j < l.length → distS l r ≤ distS l j) : distS l r ≤ 9 := by
  have hc : ∀ i : Nat, (hi : i < l.length) → 1 ≤ costS l[i] ∧ costS l[i] ≤ 9 := fun i hi => ⟨(costS_range (hsm.2 _ (List.getElem_mem hi))).1, h9 _ (List.getElem_mem hi)⟩
  -- the least index whose part before is at least a half
  have key : ∀ k : Nat, k ≤ l.length → (∃ j : Nat, j ≤ k ∧ sumC l ≤ 2 * pre l j ∧ ∀ i : Nat, i < j → 2 * pre l i < sumC l) ∨ (∀ i : Nat, i ≤ k → 2 * pre l i < sumC l) := by
    intro k
    induction k with
    | zero =>
      intro _
      by_cases c : sumC l ≤ 2 * pre l 0
      · exact .inl ⟨0, Nat.le_refl _, c, fun i hi => by omega⟩
      · exact .inr fun i hi => by obtain rfl : i = 0 := by omega
                                  omega
    | succ k ih =>
      intro hk
      rcases ih (by omega) with ⟨j, h1, h2, h3⟩ | h
      · exact .inl ⟨j, by omega, h2, h3⟩
      · by_cases c : sumC l ≤ 2 * pre l (k + 1)
        · exact .inl ⟨k + 1, Nat.le_refl _, c, fun i hi => h i (by omega)⟩
        · exact .inr fun i hi => by
            by_cases e : i = k + 1
            · subst e; omega
            · exact h i (by omega)
  have hp0 := pre_zero l
  have hpl := pre_len l
  have h01 : pre l 1 = pre l 0 + costS (l[0]'(by omega)) := pre_succ (l := l) (i := 0) (by omega)
  have c0 := hc 0 (by omega)
  have h12 : pre l 2 = pre l 1 + costS (l[1]'(by omega)) := pre_succ (l := l) (i := 1) (by omega)
  have c1 := hc 1 (by omega)
  have hr2 := pre_range hsm 2
  rcases key l.length (Nat.le_refl _) with ⟨j, h1, h3, h4⟩ | h
  · have hj0 : 1 ≤ j := by
      rcases Nat.eq_zero_or_pos j with e | e
      · subst e; omega
      · exact e
    have hlt := h4 (j - 1) (by omega)
    have hs := pre_succ (l := l) (i := j - 1) (by omega)
    have cj := hc (j - 1) (by omega)
    rw [show j - 1 + 1 = j by omega] at hs
    have dj : distS l j = 2 * pre l j - sumC l := by unfold distS; rw [if_neg (by omega)]
    have dj1 : distS l (j - 1) = sumC l - 2 * pre l (j - 1) := by unfold distS; rw [if_pos (by omega)]; omega
    by_cases e1 : j = 1
    · have := hr 1 (by omega) (by omega)
      rw [e1] at dj
      omega
    · have := hr (j - 1) (by omega) (by omega)
      by_cases e2 : j < l.length
      · have := hr j (by omega) e2
        omega
      · obtain rfl : j = l.length := by omega
        have h1p := pre_range hsm 1
        have hmono : pre l 1 ≤ pre l (l.length - 1) := by
          have a1 := pre_split l 1
          have a2 := pre_split l (l.length - 1)
          have : l.take (l.length - 1) = l.take 1 ++ (l.take (l.length - 1)).drop 1 := by
            have := List.take_append_drop 1 (l.take (l.length - 1))
            rw [List.take_take, Nat.min_eq_left (by omega)] at this
            exact this.symm
          unfold pre
          rw [this, sumC_append]
          have := sumC_le ((hsm.take (l.length - 1)).drop 1).2
          omega
        omega
  · have := h l.length (Nat.le_refl _)
    omega
end Go.Ev.L
