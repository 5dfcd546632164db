/- Pages of slots: the program's is the reference's, and what it has. -/
import Derived.Test.YtfohnbfhajkelaaO4
set_option linter.unusedVariables false
set_option linter.unusedSimpArgs false
set_option linter.unusedSectionVars false
set_option maxRecDepth 10000
namespace Go.Ev.L
open Go Go.Ev Go.Ev.M

theorem ref16_Make (level : Int) (low high : ByteArray) (next : Int) : m_ticketlineref16_Make level low high next = some (makeE level low high next) := by
  unfold m_ticketlineref16_Make makeE
  by_cases c1 : level < 0
  · simp [c1]
  by_cases c2 : level > 5
  · simp [c1, c2]
  by_cases c3 : (low.size : Int) > 24
  · simp [c1, c2, c3, show ¬ 5 < level by omega, show 24 < low.size by omega]
  by_cases c4 : (high.size : Int) > 24
  · simp [c1, c2, c3, c4, show ¬ 5 < level by omega, show 24 < high.size by omega, show ¬ 24 < low.size by omega]
  have tail : (if (decide (next < 0)) = true then some (3 : Int) else if (decide (next > 511)) = true then some 3 else some 0) = some (if next < 0 ∨ 511 < next then 3 else 0) := by
    by_cases d1 : next < 0
    · simp [d1]
    · by_cases d2 : next > 511
      · simp [d1, d2]
      · simp [d1, d2, show ¬ 511 < next by omega]
  simp only [c1, c2, c3, c4, decide_false, Bool.false_eq_true, if_false, tail, show ¬ 5 < level by omega, show ¬ 24 < low.size by omega, show ¬ 24 < high.size by omega, or_self]
  by_cases c5 : high = eB
  · subst c5; simp [strEq_refl]
  · cases hx : strLt low high <;> simp [strEq_false c5, c5]

theorem err_allowed {leaf : Bool} {l : List Pr} (h : errF leaf l 0 l.length = 0) (k : Nat) (hk : k < l.length) : allowedS leaf k (l[k]) = 0 := by
  have := ((errF_zero _ _).1 h k (by omega) (by omega)).1
  rwa [GP_get hk] at this
section
variable {level : Int} {low high : ByteArray} {next : Int} (hm : makeE level low high next = 0) {l : List Pr} (he : errF (level == 0) l 0 l.length = 0) (hs : sumC l ≤ 108) (hsm : SmallL l)
include hm he hs hsm
theorem of_pre : PageOK (emptyP level low high next) ∧ validB (emptyP level low high next) = true ∧ (∀ (k : Nat) (hk : k < l.length), allowedS (G (emptyP level low high next) 8 == 1) ((count (emptyP level low high next) : Int) + k) (l[k]) = 0) ∧ 20 + G (emptyP level low high next) 9 + sumC l ≤ G (emptyP level low high next) 11 := by
  obtain ⟨m1, m2, m3, m4, m5, m6, m7⟩ := makeE_zero.1 hm
  obtain ⟨hB, f1, f2, f3, f4⟩ := emptyP_facts m1 m2 m3 m4 m6 m7
  refine ⟨hB.page, hB.valid, fun k hk => ?_, ?_⟩
  · have e : (G (emptyP level low high next) 8 == 1) = (level == 0) := by rw [f3, Bool.eq_iff_iff]; simp; omega
    rw [e, hB.count]
    have := err_allowed he k hk
    simpa using this
  · rw [hB.nine, hB.top]; omega
end

theorem compact_base {level : Int} {low high : ByteArray} {next : Int} (hm : makeE level low high next = 0) : ((splice (emptyP level low high next) 20 (List.replicate 108 0)).set 9 0).set 11 128 = emptyP level low high next := by
  obtain ⟨m1, m2, m3, m4, m5, m6, m7⟩ := makeE_zero.1 hm
  have hp := emptyP_page m1 m2 m3 m4 m6 m7
  have g := G_emptyP m1 m2 m3 m4 m6 m7
  have hl := hp.1
  have hz0 : ∀ j, G (List.replicate 108 (0 : Int)) j = 0 := fun j => by
    unfold G
    rw [List.getD_eq_getElem?_getD, List.getElem?_replicate]; split <;> rfl
  have hzl : (List.replicate 108 (0 : Int)).length = 108 := List.length_replicate
  generalize List.replicate 108 (0 : Int) = zs at hz0 hzl
  have hsl : (splice (emptyP level low high next) 20 zs).length = 128 := by rw [splice_length _ _ (by omega) (by rw [hl, hzl]; decide)]; exact hl
  refine list_ext_G (by rw [List.length_set, List.length_set, hsl, hl]) fun i hi => ?_
  rw [List.length_set, List.length_set, hsl] at hi
  rw [G_set (by rw [List.length_set, hsl]; omega) _ (by omega), G_set (by rw [hsl]; omega) _ (by omega), G_splice (by omega) (by rw [hl, hzl]; decide) _ (by omega), hzl]
  by_cases c1 : (i : Int) = 11
  · rw [if_pos (by omega), c1, g 11 (by omega), if_neg (by omega), G_empty m3 m4 11 (by omega) (by omega), if_neg (by omega), if_pos rfl]
  rw [if_neg (by omega)]
  by_cases c2 : (i : Int) = 9
  · rw [if_pos (by omega), c2, g 9 (by omega), if_neg (by omega), G_empty m3 m4 9 (by omega) (by omega), if_neg (by omega), if_neg (by omega)]
  rw [if_neg (by omega)]
  by_cases c3 : (20 : Int) ≤ i ∧ (i : Int) < 20 + ((108 : Nat) : Int)
  · rw [if_pos c3, g _ (by omega), if_neg (by omega), G_emptyTail m3 m4 _ (by omega), hz0]
  · rw [if_neg c3]

theorem page_Of_l0 {level : Int} {low high : ByteArray} {next : Int} (hm : makeE level low high next = 0) {l : List Pr} (hsm : SmallL l) (z : List Int) : ∀ (m n N i : Nat) (acc : Int), i + m = l.length → m < n → 0 ≤ acc → acc ≤ 1000 * i → acc + sumC (l.drop i) = sumC l → (errF (level == 0) l 0 l.length = 0 ↔ errF (level == 0) l i m = 0) →
    m_page_Of_l0 N n level next l acc l l.length i z (emptyS level low high) = some (if errF (level == 0) l i m ≠ 0 then (List.replicate 128 0, errF (level == 0) l i m) else if sumC l > 108 then (List.replicate 128 0, 7) else (ofS level low high next l, 0)) := by
  obtain ⟨m1, m2, m3, m4, m5, m6, m7⟩ := makeE_zero.1 hm
  have hlen := hsm.1
  intro m
  induction m with
  | zero =>
    intro n N i acc hi hn h0 h1 h2 h3
    obtain ⟨n, rfl⟩ : ∃ q, n = q + 1 := ⟨n - 1, by omega⟩
    rw [List.drop_eq_nil_of_le (by omega)] at h2
    have h2 : acc = sumC l := by simpa [sumC] using h2
    subst h2
    have w1 : IntKind.u64.wrap next = next := wU (by omega) (by omega)
    simp only [m_page_Of_l0, m_page_Of_l0_b, show ¬ (i : Int) < (l.length : Int) by omega, decide_false, Bool.false_eq_true, if_false, w1, errF, ne_eq, not_true]
    by_cases c : sumC l > 108
    · simp only [c, decide_true, if_true]
    · have he : errF (level == 0) l 0 l.length = 0 := h3.2 rfl
      obtain ⟨p1, p2, p3, p4⟩ := of_pre hm he (by omega) hsm
      have hc : m_page_compact ((emptyS level low high).set 10 next) l = some (ofS level low high next l) := by
        unfold m_page_compact m_page_compact_a
        have := compact_l0 p1 p2 p3 p4 hlen l.length FUEL FUEL 0 (by omega) (by have := FUEL_big; omega)
        have e : (emptyS level low high).set 10 next = emptyP level low high next := rfl
        rw [e, compact_base hm]
        exact this
      simp only [c, decide_false, Bool.false_eq_true, if_false, hc, Option.bind_some]
  | succ m ih =>
    intro n N i acc hi hn h0 h1 h2 h3
    obtain ⟨n, rfl⟩ : ∃ q, n = q + 1 := ⟨n - 1, by omega⟩
    have hlt : i < l.length := by omega
    have hx := hsm.2 l[i] (List.getElem_mem hlt)
    have hcr := costS_range hx
    rw [List.drop_eq_getElem_cons hlt] at h2
    simp only [sumC] at h2
    have hcost : m_slot_Cost (l[i]).1 (l[i]).2.1 = some (costS l[i]) := slot_Cost (by omega) (by omega)
    have w1 : IntKind.i64.wrap (acc + costS l[i]) = acc + costS l[i] := wI (by omega) (by omega)
    have w2 : IntKind.i64.wrap ((i : Int) + 1) = ((i + 1 : Nat) : Int) := by rw [wI (by omega) (by omega)]; omega
    simp only [m_page_Of_l0, m_page_Of_l0_b, show (i : Int) < (l.length : Int) by omega, decide_true, if_true, Int.natCast_nonneg, rd_GP, GP_get hlt, page_allowed, Option.bind_some, hcost, w1, w2]
    have hall : allowedS (level == 0) i ((l[i]).1, ((l[i]).2.1, ())) = allowedS (level == 0) i (GP l i) := by rw [GP_get hlt]
    rw [hall]
    by_cases c1 : allowedS (level == 0) i (GP l i) = 0
    · have e1 : (allowedS (level == 0) i (GP l i) != 0) = false := by rw [c1]; rfl
      simp only [e1, Bool.false_eq_true, if_false]
      by_cases c2 : 0 < i
      · have w3 : IntKind.i64.wrap ((i : Int) - 1) = ((i - 1 : Nat) : Int) := by rw [wI (by omega) (by omega)]; omega
        have hg : GP l ((i : Int) - 1) = l[i - 1] := by rw [show ((i : Int) - 1) = ((i - 1 : Nat) : Int) by omega, GP_get (by omega)]
        simp only [show (i : Int) > 0 by omega, decide_true, if_true, w3, Int.natCast_nonneg, show ((i - 1 : Nat) : Int) < (l.length : Int) by omega, GP_get (show i - 1 < l.length by omega), keys_Compare, Option.bind_some]
        cases hlt2 : strLt (l[i - 1]).1 (l[i]).1 with
        | true =>
          have n1 : ¬ cmpI (l[i - 1]).1 (l[i]).1 ≥ 0 := fun h => by rw [cmp_ge, hlt2] at h; cases h
          have e2 : errF (level == 0) l i (m + 1) = errF (level == 0) l (i + 1) m := by
            simp only [errF]; rw [if_neg (by simpa using c1), if_neg (by rw [hg, GP_get hlt, hlt2]; simp)]
          rw [e2] at h3 ⊢
          simp only [n1, decide_false, Bool.false_eq_true, if_false]
          exact ih n N (i + 1) _ (by omega) (by omega) (by omega) (by omega) (by omega) h3
        | false =>
          have e2 : errF (level == 0) l i (m + 1) = 13 := by
            simp only [errF]; rw [if_neg (by simpa using c1), if_pos ⟨c2, by rw [hg, GP_get hlt]; exact hlt2⟩]
          simp only [cmp_ge.2 hlt2, decide_true, if_true, e2]
          rfl
      · have e2 : errF (level == 0) l i (m + 1) = errF (level == 0) l (i + 1) m := by
          simp only [errF]; rw [if_neg (by simpa using c1), if_neg (fun h => c2 h.1)]
        rw [e2] at h3 ⊢
        simp only [show ¬ (i : Int) > 0 by omega, decide_false, Bool.false_eq_true, if_false]
        exact ih n N (i + 1) _ (by omega) (by omega) (by omega) (by omega) (by omega) h3
    · have e1 : (allowedS (level == 0) i (GP l i) != 0) = true := by simpa using c1
      have e2 : errF (level == 0) l i (m + 1) = allowedS (level == 0) i (GP l i) := by
        simp only [errF]; rw [if_pos c1]
      rw [e2, if_pos c1]
      simp only [e1, if_true]

theorem ref16_Of_l0 {level : Int} {low high : ByteArray} {next : Int} (hm : makeE level low high next = 0) {l : List Pr} (hsm : SmallL l) (z : List Int) : ∀ (m n N i : Nat), 10000 < N → i + m = l.length → m < n → (errF (level == 0) l 0 l.length = 0 ↔ errF (level == 0) l i m = 0) →
    m_ticketlineref16_Of_l0 N n level low high next l i z = some (if errF (level == 0) l i m ≠ 0 then (List.replicate 128 0, errF (level == 0) l i m) else if sumC l > 108 then (List.replicate 128 0, 7) else (ofS level low high next l, 0)) := by
  obtain ⟨m1, m2, m3, m4, m5, m6, m7⟩ := makeE_zero.1 hm
  have hlen := hsm.1
  intro m
  induction m with
  | zero =>
    intro n N i hN hi hn h3
    obtain ⟨n, rfl⟩ : ∃ q, n = q + 1 := ⟨n - 1, by omega⟩
    have w1 : IntKind.u64.wrap next = next := wU (by omega) (by omega)
    simp only [m_ticketlineref16_Of_l0, m_ticketlineref16_Of_l0_b, show ¬ (i : Int) < (l.length : Int) by omega, decide_false, Bool.false_eq_true, if_false, w1, errF, ne_eq, not_true, ref_Sum hsm, Option.bind_some]
    by_cases c : sumC l > 108
    · simp only [c, decide_true, if_true]
    · have he : errF (level == 0) l 0 l.length = 0 := h3.2 rfl
      obtain ⟨p1, p2, p3, p4⟩ := of_pre hm he (by omega) hsm
      have hE := ref_Empty (level := level) (low := low) (high := high) (by omega) (by omega) m3 m4
      have := of_l1 p1 p2 p3 p4 hlen z l.length N N 0 (by omega) (by omega)
      simp only [c, decide_false, Bool.false_eq_true, if_false, hE, Option.bind_some]
      exact this
  | succ m ih =>
    intro n N i hN hi hn h3
    obtain ⟨n, rfl⟩ : ∃ q, n = q + 1 := ⟨n - 1, by omega⟩
    have hlt : i < l.length := by omega
    have w2 : IntKind.i64.wrap ((i : Int) + 1) = ((i + 1 : Nat) : Int) := by rw [wI (by omega) (by omega)]; omega
    simp only [m_ticketlineref16_Of_l0, m_ticketlineref16_Of_l0_b, show (i : Int) < (l.length : Int) by omega, decide_true, if_true, Int.natCast_nonneg, rd_GP, ref16_Allowed, Option.bind_some, w2, le_not_lt]
    by_cases c1 : allowedS (level == 0) i (GP l i) = 0
    · have e1 : (allowedS (level == 0) i (GP l i) != 0) = false := by rw [c1]; rfl
      simp only [e1, Bool.false_eq_true, if_false]
      by_cases c2 : 0 < i
      · have w3 : IntKind.i64.wrap ((i : Int) - 1) = (i : Int) - 1 := wI (by omega) (by omega)
        simp only [show (i : Int) > 0 by omega, decide_true, if_true, w3, show (0 : Int) ≤ (i : Int) - 1 by omega, show (i : Int) - 1 < (l.length : Int) by omega]
        cases hlt2 : strLt (GP l ((i : Int) - 1)).1 (GP l i).1 with
        | true =>
          have e2 : errF (level == 0) l i (m + 1) = errF (level == 0) l (i + 1) m := by
            simp only [errF]; rw [if_neg (by simpa using c1), if_neg (by rw [hlt2]; simp)]
          rw [e2] at h3 ⊢
          simp only [Bool.not_true, Bool.false_eq_true, if_false]
          exact ih n N (i + 1) hN (by omega) (by omega) h3
        | false =>
          have e2 : errF (level == 0) l i (m + 1) = 13 := by
            simp only [errF]; rw [if_neg (by simpa using c1), if_pos ⟨c2, hlt2⟩]
          simp only [Bool.not_false, if_true, e2]
          rfl
      · have e2 : errF (level == 0) l i (m + 1) = errF (level == 0) l (i + 1) m := by
          simp only [errF]; rw [if_neg (by simpa using c1), if_neg (fun h => c2 h.1)]
        rw [e2] at h3 ⊢
        simp only [show ¬ (i : Int) > 0 by omega, decide_false, Bool.false_eq_true, if_false]
        exact ih n N (i + 1) hN (by omega) (by omega) h3
    · have e1 : (allowedS (level == 0) i (GP l i) != 0) = true := by simpa using c1
      have e2 : errF (level == 0) l i (m + 1) = allowedS (level == 0) i (GP l i) := by
        simp only [errF]; rw [if_pos c1]
      rw [e2, if_pos c1]
      simp only [e1, if_true]

theorem err_pair {α : Type} (e : Int) (c : Prop) [Decidable c] (z o : α) : (if e ≠ 0 then (z, e) else if c then (z, 7) else (o, (0 : Int))) = if (if e ≠ 0 then e else if c then 7 else 0) = 0 then (o, 0) else (z, if e ≠ 0 then e else if c then 7 else 0) := by
  by_cases h : e = 0 <;> by_cases hc : c <;> simp [h, hc]
theorem ofE_make {level : Int} {low high : ByteArray} {next : Int} (hm : makeE level low high next = 0) (l : List Pr) : ofE level low high next l = if errF (level == 0) l 0 l.length ≠ 0 then errF (level == 0) l 0 l.length else if sumC l > 108 then 7 else 0 := by
  unfold ofE; rw [if_neg (fun h => h hm)]
theorem ofE_bad {level : Int} {low high : ByteArray} {next : Int} (hm : makeE level low high next ≠ 0) (l : List Pr) : ofE level low high next l = makeE level low high next := by
  unfold ofE; rw [if_pos hm]
theorem page_Of (level : Int) (low high : ByteArray) (next : Int) {l : List Pr} (hsm : SmallL l) : m_page_Of level low high next l = some (if ofE level low high next l = 0 then (ofS level low high next l, 0) else (List.replicate 128 0, ofE level low high next l)) := by
  unfold m_page_Of m_page_Of_a
  rw [slot_Make]
  simp only [Option.bind_some]
  by_cases hm : makeE level low high next = 0
  · obtain ⟨m1, m2, m3, m4, m5, m6, m7⟩ := makeE_zero.1 hm
    have c3 : ¬ (high ≠ eB ∧ strLt low high = false) := fun h => by
      rcases m5 with h5 | h5
      · exact h.1 h5
      · rw [h.2] at h5; cases h5
    have R : (if level < 0 ∨ 6 ≤ level then (List.replicate 128 0, (2 : Int)) else if 24 < low.size ∨ 24 < high.size then (List.replicate 128 0, 5) else if high ≠ eB ∧ strLt low high = false then (List.replicate 128 0, 13) else (emptyS level low high, 0)) = (emptyS level low high, 0) := by
      rw [if_neg (by omega), if_neg (by omega), if_neg c3]
    have := page_Of_l0 hm hsm (List.replicate 128 0) l.length FUEL FUEL 0 0 (by omega) (by have := FUEL_big; have := hsm.1; omega) (by omega) (by omega) (by simp) Iff.rfl
    rw [err_pair, ← ofE_make hm] at this
    rw [R]
    simp only [bne_self_eq_false, Bool.false_eq_true, if_false, show ¬ next < 0 by omega, show ¬ next > 511 by omega, decide_false]
    exact this
  · rw [ofE_bad hm, if_neg hm]
    unfold makeE at hm ⊢
    by_cases c1 : level < 0 ∨ 5 < level
    · rw [if_pos (show level < 0 ∨ 6 ≤ level by omega), if_pos c1]; rfl
    rw [if_neg c1] at hm ⊢
    rw [if_neg (show ¬ (level < 0 ∨ 6 ≤ level) by omega)]
    by_cases c2 : 24 < low.size ∨ 24 < high.size
    · rw [if_pos c2, if_pos c2]; rfl
    rw [if_neg c2] at hm ⊢
    rw [if_neg c2]
    by_cases c3 : high ≠ eB ∧ strLt low high = false
    · rw [if_pos c3, if_pos c3]; rfl
    rw [if_neg c3] at hm ⊢
    rw [if_neg c3]
    by_cases c4 : next < 0 ∨ 511 < next
    · rw [if_pos c4]
      by_cases d : next < 0
      · simp only [bne_self_eq_false, Bool.false_eq_true, if_false, d, decide_true, if_true]
      · simp only [bne_self_eq_false, Bool.false_eq_true, if_false, d, decide_true, if_true, decide_false, show next > 511 by omega]
    · rw [if_neg c4] at hm; exact absurd rfl hm
theorem ref16_Of (level : Int) (low high : ByteArray) (next : Int) {l : List Pr} (hsm : SmallL l) : m_ticketlineref16_Of level low high next l = some (if ofE level low high next l = 0 then (ofS level low high next l, 0) else (List.replicate 128 0, ofE level low high next l)) := by
  unfold m_ticketlineref16_Of m_ticketlineref16_Of_a
  rw [ref16_Make]
  simp only [Option.bind_some]
  by_cases hm : makeE level low high next = 0
  · have := ref16_Of_l0 hm hsm (List.replicate 128 0) l.length FUEL FUEL 0 (by have := FUEL_big; omega) (by omega) (by have := FUEL_big; have := hsm.1; omega) Iff.rfl
    rw [err_pair, ← ofE_make hm] at this
    simp only [hm, bne_self_eq_false, Bool.false_eq_true, if_false]
    exact this
  · have e : (makeE level low high next != 0) = true := by simpa using hm
    rw [ofE_bad hm, if_neg hm]
    simp only [e, if_true]
end Go.Ev.L
