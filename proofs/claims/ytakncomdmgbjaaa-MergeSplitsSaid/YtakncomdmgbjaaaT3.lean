/- Merging and evening: what the program and the reference compute. -/
import Derived.Test.YtakncomdmgbjaaaT2
set_option linter.unusedVariables false
set_option linter.unusedSimpArgs false
set_option linter.unusedSectionVars false
set_option maxRecDepth 10000
namespace Go.Ev.L
open Go Go.Ev Go.Ev.M

theorem merge_of {x : List Int} (hx : PageOK x) (hv : validB x = true) (low high : ByteArray) (next : Int) {l : List Pr} (hsm : SmallL l) : m_merge_of x low high next l = some (if ofE (G x 8 - 1) low high next l = 0 then (keepS (ofS (G x 8 - 1) low high next l) x, 0) else (zP, ofE (G x 8 - 1) low high next l)) := by
  unfold m_merge_of
  have ht : List.take 8 (win x 0 8) = win x 0 8 := List.take_of_length_le (by rw [win_len (by omega) (by omega) (by rw [hx.1]; omega)]; decide)
  rw [slot_Level hx]
  simp only [hv, if_true, Option.bind_some, page_Of _ _ _ _ hsm, ht]
  by_cases h : ofE (G x 8 - 1) low high next l = 0
  · simp only [h, if_true, bne_self_eq_false, Bool.false_eq_true, if_false]; rfl
  · have : (ofE (G x 8 - 1) low high next l != 0) = true := by simpa using h
    simp only [h, if_false, this, if_true]

theorem both_l0 {l : List Pr} (hl : SmallL l) (lo hi : ByteArray) (l' : List Pr) : ∀ (m n N i a : Nat) (best : Int), i + m = l.length → m < n → 1 ≤ i → 0 ≤ best → best ≤ 2000000 →
    m_merge_both_place_l0 N n best a (pre l a) (pre l i) l l.length i lo hi l' (sumC l) = some (placeL l i m best a, pre l (placeL l i m best a).toNat) := by
  have hlen := hl.1
  intro m
  induction m with
  | zero =>
    intro n N i a best hm hn h1 hb hb2
    obtain ⟨n, rfl⟩ : ∃ q, n = q + 1 := ⟨n - 1, by omega⟩
    simp only [m_merge_both_place_l0, m_merge_both_place_l0_b, show ¬ (i : Int) < (l.length : Int) by omega, decide_false, Bool.false_eq_true, if_false, placeL, Int.toNat_natCast]
  | succ m ih =>
    intro n N i a best hm hn h1 hb hb2
    obtain ⟨n, rfl⟩ : ∃ q, n = q + 1 := ⟨n - 1, by omega⟩
    have hi : i < l.length := by omega
    have hx := hl.2 l[i] (List.getElem_mem hi)
    have hcr := costS_range hx
    have hr := pre_range hl i
    have hcost : m_slot_Cost (l[i]).1 (l[i]).2.1 = some (costS l[i]) := slot_Cost (by omega) (by omega)
    have w2 : IntKind.i64.wrap ((i : Int) + 1) = ((i + 1 : Nat) : Int) := by rw [wI (by omega) (by omega)]; omega
    have w3 : IntKind.i64.wrap (pre l i + costS l[i]) = pre l (i + 1) := by rw [pre_succ hi, wI (by omega) (by omega)]
    have w4 : IntKind.i64.wrap (IntKind.i64.wrap (2 * pre l i) - sumC l) = 2 * pre l i - sumC l := by rw [wI (x := 2 * pre l i) (by omega) (by omega), wI (by omega) (by omega)]
    have w5 : IntKind.i64.wrap (sumC l - IntKind.i64.wrap (2 * pre l i)) = sumC l - 2 * pre l i := by rw [wI (x := 2 * pre l i) (by omega) (by omega), wI (by omega) (by omega)]
    have hmx : mx (2 * pre l i - sumC l) (sumC l - 2 * pre l i) = distS l i := by
      unfold mx distS; split <;> split <;> omega
    have hd := distS_le hl i
    have I1 := ih n N (i + 1) i (distS l i) (by omega) (by omega) (by omega) (by omega) (by omega)
    have I2 := ih n N (i + 1) a best (by omega) (by omega) (by omega) hb hb2
    simp only [m_merge_both_place_l0, m_merge_both_place_l0_b, show (i : Int) < (l.length : Int) by omega, decide_true, if_true, Int.natCast_nonneg, rd_GP, GP_get hi, hcost, Option.bind_some, w2, w3, w4, w5, hmx, show (i : Int) > 0 by omega, placeL]
    by_cases d : distS l i < best
    · simp only [d, decide_true, if_true, I1]
    · simp only [d, decide_false, Bool.false_eq_true, if_false, I2]
theorem both_place {l : List Pr} (hl : SmallL l) (h2 : 2 ≤ l.length) (lo hi : ByteArray) : m_merge_both_place (lo, (hi, (l, (sumC l, ())))) = some (placeS l, pre l (placeS l).toNat) := by
  unfold m_merge_both_place m_merge_both_place_a
  have hlen := hl.1
  obtain ⟨n, hn⟩ : ∃ n, FUEL = n + 1 := ⟨FUEL - 1, by have := FUEL_big; omega⟩
  have hN : 10000 < FUEL := by have := FUEL_big; omega
  generalize FUEL = N at hn hN
  subst hn
  dsimp only
  have hx := hl.2 (l[0]'(by omega)) (List.getElem_mem (by omega))
  have hcr := costS_range hx
  have hr := pre_range hl 0
  have h01 : pre l 1 = pre l 0 + costS (l[0]'(by omega)) := pre_succ (l := l) (i := 0) (by omega)
  have hp0 := pre_zero l
  have hcost : m_slot_Cost (l[0]'(by omega)).1 (l[0]'(by omega)).2.1 = some (costS (l[0]'(by omega))) := slot_Cost (by omega) (by omega)
  have hg : GP l 0 = l[0]'(by omega) := by have := GP_get (l := l) (i := 0) (by omega); exact this
  have w1 : IntKind.i64.wrap (sumC l + 1) = sumC l + 1 := wI (by omega) (by omega)
  have w2 : IntKind.i64.wrap (0 + 1) = 1 := by decide
  have w3 : IntKind.i64.wrap ((0 : Int) + costS (l[0]'(by omega))) = pre l 1 := (wI (by omega) (by omega)).trans (by omega)
  have B := both_l0 hl lo hi l (l.length - 1) n (n + 1) 1 0 (sumC l + 1) (by omega) (by omega) (by omega) (by omega) (by omega)
  rw [hp0] at B
  rw [m_merge_both_place_l0]
  simp only [m_merge_both_place_l0_b, show (0 : Int) < (l.length : Int) by omega, decide_true, if_true, Int.le_refl, rd_GP, hg, hcost, Option.bind_some, show ¬ (0 : Int) > 0 by omega, decide_false, Bool.false_eq_true, if_false, w1, w2, w3]
  exact B

def mergeE (p q : List Int) : Int := if tgE p q ≠ 0 then tgE p q else if sumC (bothL p q) > 108 then 7 else if highS q ≠ eB ∧ strLt (lowS p) (highS q) = false then 13 else 0
def mergeR (p q : List Int) : List Int × Int := if mergeE p q = 0 then (keepS (ofS (G p 8 - 1) (lowS p) (highS q) (G q 10) (bothL p q)) p, 0) else (zP, mergeE p q)

theorem of_low {leaf : Bool} {level : Int} {low high : ByteArray} {next : Int} {l : List Pr} (h : Fit leaf l) (hl : (level == 0) = leaf) (h0 : 0 ≤ level) (h1 : level ≤ 5) (hlow : low.size ≤ 24) (hhigh : high.size ≤ 24) (n0 : 0 ≤ next) (n1 : next ≤ 511) : ofE level low high next l = if high ≠ eB ∧ strLt low high = false then 13 else if sumC l > 108 then 7 else 0 := by
  by_cases hc : high ≠ eB ∧ strLt low high = false
  · have hm : makeE level low high next = 13 := by
      unfold makeE
      rw [if_neg (by omega), if_neg (by omega), if_pos hc]
    rw [ofE_bad (by omega), hm, if_pos hc]
  · have h5 : high = eB ∨ strLt low high = true := by
      by_cases e : high = eB
      · exact .inl e
      · right
        cases h : strLt low high with
        | true => rfl
        | false => exact absurd ⟨e, h⟩ hc
    have hm : makeE level low high next = 0 := makeE_zero.2 ⟨by omega, by omega, hlow, hhigh, h5, by omega, by omega⟩
    rw [ofE_make hm, if_neg hc, hl, h.err]
    simp only [ne_eq, not_true, if_false]
theorem of_made {leaf : Bool} {level : Int} {low high : ByteArray} {next : Int} {l : List Pr} (h : Fit leaf l) (hl : (level == 0) = leaf) (h0 : 0 ≤ level) (h1 : level ≤ 5) (hlow : low.size ≤ 24) (hhigh : high.size ≤ 24) (n0 : 0 ≤ next) (n1 : next ≤ 511) (hc : ¬ (high ≠ eB ∧ strLt low high = false)) (hs : sumC l ≤ 108) :
    PageOK (ofS level low high next l) ∧ validB (ofS level low high next l) = true ∧ pairsS (ofS level low high next l) = l ∧ lowS (ofS level low high next l) = low ∧ highS (ofS level low high next l) = high ∧
    G (ofS level low high next l) 8 = level + 1 ∧ G (ofS level low high next l) 10 = next ∧ G (ofS level low high next l) 9 = l.length ∧ G (ofS level low high next l) 11 = 128 - (sumC l - l.length) ∧ srtB (ofS level low high next l) = true := by
  have h5 : high = eB ∨ strLt low high = true := by
    by_cases e : high = eB
    · exact .inl e
    · right
      cases h : strLt low high with
      | true => rfl
      | false => exact absurd ⟨e, h⟩ hc
  exact ofS_facts (makeE_zero.2 ⟨by omega, by omega, hlow, hhigh, h5, by omega, by omega⟩) (by rw [hl]; exact h.err) hs h.small

section
variable {p q : List Int} (hp : PageOK p) (hq : PageOK q)
include hp hq
theorem merge_Merge : m_merge_Merge p q = some (mergeR p q) := by
  unfold m_merge_Merge mergeR
  rw [merge_together hp hq]
  unfold togR mergeE
  by_cases ht : tgE p q = 0
  · obtain ⟨s1, s2, e8, d1, d2, hm⟩ := tgE_spec.1 ht
    obtain ⟨F, hs, hs2⟩ := both_fit hp hq ht
    have v1 := (srtB_spec s1).1
    have v2 := (srtB_spec s2).1
    have h1 := head_spec (valid_head v1)
    have h2 := head_spec (valid_head v2)
    have h10 := hq.2.G 10
    obtain ⟨z1, _⟩ := lowS_size hp
    obtain ⟨_, z2⟩ := lowS_size hq
    have E := of_low (low := lowS p) (high := highS q) (next := G q 10) F rfl (by omega) (by omega) z1 z2 (by omega) (by omega)
    have M := merge_of hp v1 (lowS p) (highS q) (G q 10) F.small
    rw [E] at M
    simp only [ht, if_true, Option.bind_some, bne_self_eq_false, Bool.false_eq_true, if_false, ne_eq, not_true, slot_Next hq, v2]
    by_cases c : sumC (bothL p q) > 108
    · simp only [c, decide_true, if_true, show ¬ (7 : Int) = 0 by omega, if_false]
    · have c' : ¬ sumC (pairsS p ++ pairsS q) > 108 := c
      rw [if_neg c'] at M
      have M' : m_merge_of p (lowS p) (highS q) (G q 10) (bothL p q) = _ := M
      simp only [c, decide_false, Bool.false_eq_true, if_false, M', Option.bind_some]
      by_cases d : ¬highS q = eB ∧ strLt (lowS p) (highS q) = false
      · rw [if_pos d]; rfl
      · rw [if_neg d]; rfl
  · have e : (tgE p q != 0) = true := by simpa using ht
    simp only [ht, if_false, Option.bind_some, e, if_true, ne_eq, not_false_eq_true]

theorem ref18_Merge : m_ticketlineref18_Merge p q = some (mergeR p q) := by
  unfold m_ticketlineref18_Merge mergeR
  rw [ref18_Bad hp hq]
  unfold mergeE
  by_cases ht : tgE p q = 0
  · obtain ⟨s1, s2, e8, d1, d2, hm⟩ := tgE_spec.1 ht
    obtain ⟨F, hs, hs2⟩ := both_fit hp hq ht
    have v1 := (srtB_spec s1).1
    have v2 := (srtB_spec s2).1
    have h1 := head_spec (valid_head v1)
    have h2 := head_spec (valid_head v2)
    have h10 := hq.2.G 10
    obtain ⟨z1, _⟩ := lowS_size hp
    obtain ⟨_, z2⟩ := lowS_size hq
    have E := of_low (low := lowS p) (high := highS q) (next := G q 10) F rfl (by omega) (by omega) z1 z2 (by omega) (by omega)
    have M := ref16_Of (G p 8 - 1) (lowS p) (highS q) (G q 10) F.small
    rw [E] at M
    have hf : fits ((pairsS p).length + (pairsS q).length) 32 := by have := F.small.1; rw [List.length_append] at this; unfold fits; omega
    have w8 : IntKind.i64.wrap (IntKind.i64.wrap (G p 8) - 1) = G p 8 - 1 := by rw [wI (x := G p 8) (by omega) (by omega), wI (by omega) (by omega)]
    have w10 : IntKind.i64.wrap (G q 10) = G q 10 := wI (by omega) (by omega)
    simp only [ht, Option.bind_some, bne_self_eq_false, Bool.false_eq_true, if_false, ne_eq, not_true, ref_Pairs hp v1, ref_Pairs hq v2, hf, if_true, ref_Sum F.small, ref_Fences hp, ref_Fences hq, rd_G, w8, w10]
    by_cases c : sumC (pairsS p ++ pairsS q) > 108
    · have c' : sumC (bothL p q) > 108 := c
      simp only [c, c', decide_true, if_true, show ¬ (7 : Int) = 0 by omega, if_false]
    · have c' : ¬ sumC (bothL p q) > 108 := c
      rw [if_neg c] at M
      simp only [c, c', decide_false, Bool.false_eq_true, if_false]
      by_cases d : highS q ≠ eB ∧ strLt (lowS p) (highS q) = false
      · rw [if_pos d]
        simp only [strEq_false d.1, Bool.not_false, if_true, d.2, show ¬ (13 : Int) = 0 by omega, if_false]
      · rw [if_neg d] at M
        rw [if_neg d]
        have G1 := of_made (low := lowS p) (high := highS q) (next := G q 10) F rfl (by omega) (by omega) z1 z2 (by omega) (by omega) d (by omega)
        have K : m_ticketlineref17_Keep (ofS (G p 8 - 1) (lowS p) (highS q) (G q 10) (pairsS p ++ pairsS q)) p = _ := ref17_Keep hp G1.1
        simp only [M, Option.bind_some, if_true, bne_self_eq_false, Bool.false_eq_true, if_false, K]
        by_cases e : highS q = eB
        · simp only [e, strEq_refl, Bool.not_true, Bool.false_eq_true, if_false]; rfl
        · have e2 : strLt (lowS p) (highS q) = true := by
            cases h : strLt (lowS p) (highS q) with
            | true => rfl
            | false => exact absurd ⟨e, h⟩ d
          simp only [strEq_false e, Bool.not_false, if_true, e2, Bool.not_true, Bool.false_eq_true, if_false]; rfl
  · have e : (tgE p q != 0) = true := by simpa using ht
    simp only [ht, if_false, Option.bind_some, e, if_true, ne_eq, not_false_eq_true]
end
theorem merges18 {p q r : List Int} {e : Int} (h : m_merge_Merge p q = some (r, e)) : m_ticketlinelaw18_merges p q r e = some true := by
  unfold m_ticketlinelaw18_merges; rw [h]; simp only [Option.bind_some, beq_refl_page, if_true, beq_self_eq_true]
end Go.Ev.L
