/- Evening two neighbours; law 18's rows. -/
import Derived.Test.YtakncomdmgbjaaaT3
set_option linter.unusedVariables false
set_option linter.unusedSimpArgs false
set_option linter.unusedSectionVars false
set_option maxRecDepth 10000
namespace Go.Ev.L
open Go Go.Ev Go.Ev.M

def cutN (p q : List Int) : Nat := (placeS (bothL p q)).toNat
def cutK (p q : List Int) : ByteArray := (GP (bothL p q) (placeS (bothL p q))).1
def borrowE (p q : List Int) : Int := if tgE p q ≠ 0 then tgE p q else if (bothL p q).length < 2 then 9 else if pre (bothL p q) (cutN p q) > 108 ∨ sumC ((bothL p q).drop (cutN p q)) > 108 then 7 else
  if strLt (lowS p) (cutK p q) = false then 13 else if highS q ≠ eB ∧ strLt (cutK p q) (highS q) = false then 13 else 0
def borrowR (p q : List Int) : List Int × List Int × ByteArray × Int := if borrowE p q = 0 then (keepS (ofS (G p 8 - 1) (lowS p) (cutK p q) (G p 10) ((bothL p q).take (cutN p q))) p, keepS (ofS (G p 8 - 1) (cutK p q) (highS q) (G q 10) ((bothL p q).drop (cutN p q))) q, cutK p q, 0) else (zP, zP, eB, borrowE p q)

section
variable {p q : List Int} (hp : PageOK p) (hq : PageOK q) (ht : tgE p q = 0) (h2 : 2 ≤ (bothL p q).length)
include hp hq ht h2
theorem cut_spec : placeS (bothL p q) = (cutN p q : Int) ∧ 1 ≤ cutN p q ∧ ∃ hr : cutN p q < (bothL p q).length, distS (bothL p q) (cutN p q) ≤ 9 ∧ GP (bothL p q) (cutN p q : Int) = (bothL p q)[cutN p q] ∧ cutK p q = ((bothL p q)[cutN p q]).1 ∧ cutK p q ≠ eB ∧ (cutK p q).size ≤ 24 := by
  obtain ⟨F, hs, hs2⟩ := both_fit hp hq ht
  have F : Fit (G p 8 - 1 == 0) (bothL p q) := F
  obtain ⟨r, e, h1, hr, hmin⟩ := placeS_spec F.small h2
  have hc : cutN p q = r := by unfold cutN; rw [e]; rfl
  have hk : cutK p q = ((bothL p q)[r]).1 := by unfold cutK; rw [e, GP_get hr]
  rw [hc]
  obtain ⟨k1, k2⟩ := F.key h1 hr
  exact ⟨e, h1, hr, place_even F.small h2 (fun x hx => (F.size x hx).2.2) hmin, GP_get hr, hk, by rw [hk]; exact k1, by rw [hk]; exact k2⟩
theorem cut_E : ofE (G p 8 - 1) (lowS p) (cutK p q) (G p 10) ((bothL p q).take (cutN p q)) = (if strLt (lowS p) (cutK p q) = false then 13 else if pre (bothL p q) (cutN p q) > 108 then 7 else 0) ∧
    ofE (G p 8 - 1) (cutK p q) (highS q) (G q 10) ((bothL p q).drop (cutN p q)) = (if highS q ≠ eB ∧ strLt (cutK p q) (highS q) = false then 13 else if sumC ((bothL p q).drop (cutN p q)) > 108 then 7 else 0) := by
  obtain ⟨F, hs, hs2⟩ := both_fit hp hq ht
  have F : Fit (G p 8 - 1 == 0) (bothL p q) := F
  obtain ⟨s1, s2, e8, d1, d2, hm⟩ := tgE_spec.1 ht
  obtain ⟨e, h1, hr, hd, hg, hk, k1, k2⟩ := cut_spec hp hq ht h2
  have v1 := (srtB_spec s1).1
  have v2 := (srtB_spec s2).1
  have g1 := head_spec (valid_head v1)
  have g2 := head_spec (valid_head v2)
  have p10 := hp.2.G 10
  have q10 := hq.2.G 10
  obtain ⟨z1, _⟩ := lowS_size hp
  obtain ⟨_, z2⟩ := lowS_size hq
  constructor
  · rw [of_low (F.take (cutN p q)) rfl (by omega) (by omega) z1 k2 (by omega) (by omega)]
    simp only [ne_eq, k1, not_false_eq_true, true_and]
    rfl
  · exact of_low (F.drop h1) rfl (by omega) (by omega) k2 z2 (by omega) (by omega)
theorem cut_sum : pre (bothL p q) (cutN p q) + sumC ((bothL p q).drop (cutN p q)) = sumC (bothL p q) ∧ 0 ≤ pre (bothL p q) (cutN p q) ∧ 0 ≤ sumC ((bothL p q).drop (cutN p q)) ∧ sumC (bothL p q) ≤ 216 := by
  obtain ⟨F, hs, hs2⟩ := both_fit hp hq ht
  have F : Fit (G p 8 - 1 == 0) (bothL p q) := F
  exact ⟨pre_split _ _, (pre_range F.small _).1, (sumC_le (F.small.drop _).2).1, hs2⟩
end

section
variable {p q : List Int} (hp : PageOK p) (hq : PageOK q)
include hp hq
theorem merge_Borrow : m_merge_Borrow p q = some (borrowR p q) := by
  unfold m_merge_Borrow borrowR
  dsimp only
  rw [merge_together hp hq]
  unfold togR borrowE
  by_cases ht : tgE p q = 0
  · obtain ⟨s1, s2, e8, d1, d2, hm⟩ := tgE_spec.1 ht
    obtain ⟨F, hs, hs2⟩ := both_fit hp hq ht
    have F : Fit (G p 8 - 1 == 0) (bothL p q) := F
    have v1 := (srtB_spec s1).1
    have v2 := (srtB_spec s2).1
    have hlen := F.small.1
    simp only [ht, if_true, Option.bind_some, bne_self_eq_false, Bool.false_eq_true, if_false, ne_eq, not_true]
    by_cases c2 : (bothL p q).length < 2
    · simp only [c2, show ((bothL p q).length : Int) < 2 by omega, decide_true, if_true, show ¬ (9 : Int) = 0 by omega, if_false]
    have h2 : 2 ≤ (bothL p q).length := by omega
    obtain ⟨e, h1, hr, hd, hg, hk, k1, k2⟩ := cut_spec hp hq ht h2
    obtain ⟨E1, E2⟩ := cut_E hp hq ht h2
    obtain ⟨u1, u2, u3, u4⟩ := cut_sum hp hq ht h2
    have M1 := merge_of hp v1 (lowS p) (cutK p q) (G p 10) (F.small.take (cutN p q))
    have M2 := merge_of hq v2 (cutK p q) (highS q) (G q 10) (F.small.drop (cutN p q))
    rw [← e8] at M2
    rw [E1] at M1
    rw [E2] at M2
    have w1 : IntKind.i64.wrap (sumC (bothL p q) - pre (bothL p q) (cutN p q)) = sumC ((bothL p q).drop (cutN p q)) := by rw [wI (by omega) (by omega)]; omega
    have hmx : (mx (pre (bothL p q) (cutN p q)) (sumC ((bothL p q).drop (cutN p q))) > 108) = (pre (bothL p q) (cutN p q) > 108 ∨ sumC ((bothL p q).drop (cutN p q)) > 108) := by
      apply propext; unfold mx; split <;> omega
    have wt : win (bothL p q) 0 ((cutN p q : Int) - 0) = (bothL p q).take (cutN p q) := win_take
    have wd : win (bothL p q) (cutN p q) (((bothL p q).length : Int) - (cutN p q : Int)) = (bothL p q).drop (cutN p q) := win_drop
    have e' : (placeS (bothL p q)).toNat = cutN p q := rfl
    simp only [c2, show ¬ ((bothL p q).length : Int) < 2 by omega, decide_false, Bool.false_eq_true, if_false, both_place F.small h2, Option.bind_some, Int.toNat_natCast, e, w1, hmx]
    by_cases c3 : pre (bothL p q) (cutN p q) > 108 ∨ sumC ((bothL p q).drop (cutN p q)) > 108
    · simp only [c3, decide_true, if_true, show ¬ (7 : Int) = 0 by omega, if_false]
    · have c31 : ¬ pre (bothL p q) (cutN p q) > 108 := fun h => c3 (.inl h)
      have c32 : ¬ sumC ((bothL p q).drop (cutN p q)) > 108 := fun h => c3 (.inr h)
      rw [if_neg c31] at M1
      rw [if_neg c32] at M2
      have hgk : (GP (bothL p q) (cutN p q : Int)).1 = cutK p q := by rw [hg, hk]
      simp only [c3, decide_false, Bool.false_eq_true, if_false, Int.natCast_nonneg, if_true, show (cutN p q : Int) < ((bothL p q).length : Int) by omega, show (cutN p q : Int) ≤ ((bothL p q).length : Int) by omega, Int.le_refl, rd_GP, hgk, slot_Next hp, slot_Next hq, v1, v2, Option.bind_some, wt, wd, M1, M2]
      cases hc1 : strLt (lowS p) (cutK p q) with
      | false => rfl
      | true =>
        simp only [Bool.true_eq_false, if_false, if_true, bne_self_eq_false, Bool.false_eq_true]
        by_cases hc2 : ¬ highS q = eB ∧ strLt (cutK p q) (highS q) = false
        · rw [if_pos hc2]; rfl
        · rw [if_neg hc2]; rfl
  · have e : (tgE p q != 0) = true := by simpa using ht
    simp only [ht, if_false, Option.bind_some, e, if_true, ne_eq, not_false_eq_true]

theorem ref18_Borrow : m_ticketlineref18_Borrow p q = some (borrowR p q) := by
  unfold m_ticketlineref18_Borrow borrowR
  rw [ref18_Bad hp hq]
  unfold borrowE
  by_cases ht : tgE p q = 0
  · obtain ⟨s1, s2, e8, d1, d2, hm⟩ := tgE_spec.1 ht
    obtain ⟨F, hs, hs2⟩ := both_fit hp hq ht
    have F : Fit (G p 8 - 1 == 0) (bothL p q) := F
    have v1 := (srtB_spec s1).1
    have v2 := (srtB_spec s2).1
    have hlen := F.small.1
    have hh := head_spec (valid_head v1)
    have hh2 := head_spec (valid_head v2)
    have p10 := hp.2.G 10
    have q10 := hq.2.G 10
    obtain ⟨z1, _⟩ := lowS_size hp
    obtain ⟨_, z2⟩ := lowS_size hq
    have hf : fits ((pairsS p).length + (pairsS q).length) 32 := by have := F.small.1; unfold bothL at this; rw [List.length_append] at this; unfold fits; omega
    have w8 : IntKind.i64.wrap (IntKind.i64.wrap (G p 8) - 1) = G p 8 - 1 := by rw [wI (x := G p 8) (by omega) (by omega), wI (by omega) (by omega)]
    have w10 : IntKind.i64.wrap (G p 10) = G p 10 := wI (by omega) (by omega)
    have w10' : IntKind.i64.wrap (G q 10) = G q 10 := wI (by omega) (by omega)
    have hL : pairsS p ++ pairsS q = bothL p q := rfl
    simp only [ht, Option.bind_some, bne_self_eq_false, Bool.false_eq_true, if_false, ne_eq, not_true, ref_Pairs hp v1, ref_Pairs hq v2, hf, if_true, ref_Fences hp, ref_Fences hq, rd_G, w8, w10, w10', hL]
    by_cases c2 : (bothL p q).length < 2
    · simp only [c2, show ((bothL p q).length : Int) < 2 by omega, decide_true, if_true, show ¬ (9 : Int) = 0 by omega, if_false]
    have h2 : 2 ≤ (bothL p q).length := by omega
    obtain ⟨e, h1, hr, hd, hg, hk, k1, k2⟩ := cut_spec hp hq ht h2
    obtain ⟨E1, E2⟩ := cut_E hp hq ht h2
    obtain ⟨u1, u2, u3, u4⟩ := cut_sum hp hq ht h2
    have M1 := ref16_Of (G p 8 - 1) (lowS p) (cutK p q) (G p 10) (F.small.take (cutN p q))
    have M2 := ref16_Of (G p 8 - 1) (cutK p q) (highS q) (G q 10) (F.small.drop (cutN p q))
    rw [E1] at M1
    rw [E2] at M2
    have wt : win (bothL p q) 0 ((cutN p q : Int) - 0) = (bothL p q).take (cutN p q) := win_take
    have wd : win (bothL p q) (cutN p q) (((bothL p q).length : Int) - (cutN p q : Int)) = (bothL p q).drop (cutN p q) := win_drop
    have hgk : (GP (bothL p q) (cutN p q : Int)).1 = cutK p q := by rw [hg, hk]
    have s1 : m_ticketlineref14_Sum ((bothL p q).take (cutN p q)) = some (pre (bothL p q) (cutN p q)) := ref_Sum (F.small.take _)
    simp only [c2, show ¬ ((bothL p q).length : Int) < 2 by omega, decide_false, Bool.false_eq_true, if_false, ref17_Place F.small (show sumC (bothL p q) < 1000 by omega) h2, Option.bind_some, e, Int.natCast_nonneg, if_true, show (cutN p q : Int) < ((bothL p q).length : Int) by omega, show (cutN p q : Int) ≤ ((bothL p q).length : Int) by omega, Int.le_refl, wt, wd, s1, ref_Sum (F.small.drop (cutN p q)), rd_GP, hgk, le_not_lt]
    by_cases c31 : pre (bothL p q) (cutN p q) > 108
    · simp only [c31, decide_true, if_true, true_or, show ¬ (7 : Int) = 0 by omega, if_false]
    by_cases c32 : sumC ((bothL p q).drop (cutN p q)) > 108
    · simp only [c31, c32, decide_true, decide_false, Bool.false_eq_true, if_true, or_true, show ¬ (7 : Int) = 0 by omega, if_false]
    rw [if_neg c31] at M1
    rw [if_neg c32] at M2
    simp only [c31, c32, decide_false, Bool.false_eq_true, if_false, or_self, M1, M2, Option.bind_some]
    cases hc1 : strLt (lowS p) (cutK p q) with
    | false => simp only [Bool.not_false, if_true, show ¬ (13 : Int) = 0 by omega, if_false]
    | true =>
      have F1 := F.take (cutN p q)
      have F2 := F.drop h1
      have G1 := of_made (low := lowS p) (high := cutK p q) (next := G p 10) F1 rfl (by omega) (by omega) z1 k2 (by omega) (by omega) (by rw [hc1]; simp) (by unfold pre at c31; omega)
      have K1 := ref17_Keep hp G1.1
      simp only [Bool.not_true, Bool.false_eq_true, if_false, Bool.true_eq_false, if_true, K1, Option.bind_some, bne_self_eq_false]
      by_cases hc2 : highS q = eB
      · have G2 := of_made (low := cutK p q) (high := highS q) (next := G q 10) F2 rfl (by omega) (by omega) k2 z2 (by omega) (by omega) (by rw [hc2]; simp) (by omega)
        have K2 := ref17_Keep hq G2.1
        rw [hc2] at K2
        simp only [ne_eq, hc2, strEq_refl, Bool.not_true, Bool.false_eq_true, if_false, not_true, false_and, if_true, bne_self_eq_false, K2, Option.bind_some]
      · cases hc3 : strLt (cutK p q) (highS q) with
        | true =>
          have G2 := of_made (low := cutK p q) (high := highS q) (next := G q 10) F2 rfl (by omega) (by omega) k2 z2 (by omega) (by omega) (by rw [hc3]; simp) (by omega)
          have K2 := ref17_Keep hq G2.1
          simp only [ne_eq, strEq_false hc2, hc2, Bool.not_false, Bool.not_true, if_true, Bool.false_eq_true, if_false, not_false_eq_true, true_and, Bool.true_eq_false, bne_self_eq_false, K2, Option.bind_some]
        | false => simp only [ne_eq, strEq_false hc2, hc2, Bool.not_false, Bool.not_true, if_true, Bool.false_eq_true, if_false, not_false_eq_true, true_and, Bool.true_eq_false, show ¬ (13 : Int) = 0 by omega]
  · have e : (tgE p q != 0) = true := by simpa using ht
    simp only [ht, if_false, Option.bind_some, e, if_true, ne_eq, not_false_eq_true]
end
theorem borrows18 {p q a b : List Int} {k : ByteArray} {e : Int} (h : m_merge_Borrow p q = some (a, b, k, e)) : m_ticketlinelaw18_borrows p q a b k e = some true := by
  unfold m_ticketlinelaw18_borrows; rw [h]; simp only [Option.bind_some, beq_refl_page, if_true, strEq_refl, beq_self_eq_true]

theorem right18 {p q : List Int} (hp : PageOK p) (hq : PageOK q) : m_ticketlinelaw18_right p q = some true := by
  unfold m_ticketlinelaw18_right
  rw [ref18_Bad hp hq]
  simp only [Option.bind_some]
  by_cases ht : tgE p q = 0
  · obtain ⟨s1, s2, e8, d1, d2, hm⟩ := tgE_spec.1 ht
    obtain ⟨F, hs, hs2⟩ := both_fit hp hq ht
    have v1 := (srtB_spec s1).1
    have v2 := (srtB_spec s2).1
    have f1 := (sorted_fit hp s1).small
    have f2 := (sorted_fit hq s2).small
    have u1 := sumC_le f1.2
    have u2 := sumC_le f2.2
    have c1 := f1.1
    have c2 := f2.1
    have w : IntKind.i64.wrap (sumC (pairsS p) + sumC (pairsS q)) = sumC (bothL p q) := by rw [wI (by omega) (by omega)]; exact hs.symm
    have hF : fitR p q = (decide (sumC (bothL p q) ≤ 108), 0) := by unfold fitR; rw [if_pos ht]
    simp only [ht, bne_self_eq_false, Bool.false_eq_true, if_false, ref_Pairs hp v1, ref_Pairs hq v2, ref_Sum f1, ref_Sum f2, Option.bind_some, w, fits18 hp hq hF, Bool.not_true, ref18_Merge hp hq, ref18_Borrow hp hq,
      merges18 (r := (mergeR p q).1) (e := (mergeR p q).2) (merge_Merge hp hq), if_true, borrows18 (a := (borrowR p q).1) (b := (borrowR p q).2.1) (k := (borrowR p q).2.2.1) (e := (borrowR p q).2.2.2) (merge_Borrow hp hq)]
  · have e : (tgE p q != 0) = true := by simpa using ht
    have hF : fitR p q = (false, tgE p q) := by unfold fitR; rw [if_neg ht]
    have eM : mergeE p q = tgE p q := by unfold mergeE; rw [if_pos ht]
    have eB' : borrowE p q = tgE p q := by unfold borrowE; rw [if_pos ht]
    have hM : m_merge_Merge p q = some (zP, tgE p q) := by rw [merge_Merge hp hq]; unfold mergeR; rw [eM, if_neg ht]
    have hB : m_merge_Borrow p q = some (zP, zP, eB, tgE p q) := by rw [merge_Borrow hp hq]; unfold borrowR; rw [eB', if_neg ht]
    simp only [e, if_true, fits18 hp hq hF, Option.bind_some, merges18 hM, borrows18 hB]
theorem mergePages_true {x y : Pln} (hx : PlnOK x) (hy : PlnOK y) : m_ticketlinelaw18_MergePages x y = some true := by
  obtain ⟨p, b, h1, h2, h3⟩ := plan_page hx
  obtain ⟨q, c, g1, g2, g3⟩ := plan_page hy
  unfold m_ticketlinelaw18_MergePages
  rw [h1, g1]
  simp only [Option.bind_some, known18, right18 h2 g2]
  cases b <;> cases c <;> rfl
end Go.Ev.L
