/- Merging: two pages as neighbours. -/
import Derived.Test.YtakncomdmgbjaaaO8
import Derived.Test.YtakncomdmgbjaaaM18
import Derived.KernelRfl
set_option linter.unusedVariables false
set_option linter.unusedSimpArgs false
set_option linter.unusedSectionVars false
set_option maxRecDepth 10000
namespace Go.Ev.L
open Go Go.Ev Go.Ev.M

theorem known18 : m_ticketlinelaw18_known = some true := by kernel_rfl

theorem merge_check {p : List Int} (hp : PageOK p) : m_merge_check p = some (badS p) := by
  unfold m_merge_check badS
  rw [slot_Valid hp, search_Sorted hp]
  cases hv : validB p with
  | false => simp [hv]
  | true =>
    cases hs : srt (pairsS p) <;> simp [srtB, hv, hs]
def poorR (p : List Int) : Bool × Int := if srtB p = true then (decide (sumC (pairsS p) < 36), 0) else (false, badS p)
theorem merge_Poor {p : List Int} (hp : PageOK p) : m_merge_Poor p = some (poorR p) := by
  unfold m_merge_Poor poorR
  rw [merge_check hp, slot_Load hp]
  cases hs : srtB p with
  | false => simp only [Option.bind_some, badS_bne hs, if_true, Bool.false_eq_true, if_false]
  | true =>
    have hb : badS p = 0 := by have := badS_zero (p := p); rw [hs] at this; simpa using this
    simp only [hb, Option.bind_some, bne_self_eq_false, Bool.false_eq_true, if_false, if_true, (srtB_spec hs).1]
theorem poor18 {p : List Int} (hp : PageOK p) {b : Bool} {e : Int} (h : poorR p = (b, e)) : m_ticketlinelaw18_poor p b e = some true := by
  unfold m_ticketlinelaw18_poor; rw [merge_Poor hp, h]; simp
theorem mergePoor_true {x : Pln} (h : PlnOK x) : m_ticketlinelaw18_MergePoor x = some true := by
  obtain ⟨p, b, h1, h2, h3⟩ := plan_page h
  unfold m_ticketlinelaw18_MergePoor
  rw [h1]
  simp only [Option.bind_some, known18]
  cases b with
  | false => rfl
  | true =>
    simp only [Bool.not_true, Bool.false_eq_true, if_false, ref15_Bad h2, Option.bind_some]
    cases hs : srtB p with
    | false => simp only [badS_bne hs, if_true, poor18 h2 (b := false) (e := badS p) (by unfold poorR; rw [if_neg (by rw [hs]; simp)]), Option.bind_some]
    | true =>
      have hb : badS p = 0 := by have := badS_zero (p := p); rw [hs] at this; simpa using this
      simp only [hb, bne_self_eq_false, Bool.false_eq_true, if_false, ref_Pairs h2 (srtB_spec hs).1, Option.bind_some, ref_Sum (srt_small h2 hs).1, poor18 h2 (b := decide (sumC (pairsS p) < 36)) (e := 0) (by unfold poorR; rw [if_pos hs]), if_true]

theorem every_l0 (l : List Bool) (hl : l.length ≤ 1000) : ∀ (m n N i : Nat), i + m = l.length → m < n → m_merge_every_l0 N n l l.length i = some ((l.drop i).all id) := by
  intro m
  induction m with
  | zero =>
    intro n N i hm hn
    obtain ⟨n, rfl⟩ : ∃ q, n = q + 1 := ⟨n - 1, by omega⟩
    simp only [m_merge_every_l0, m_merge_every_l0_b, show ¬ (i : Int) < (l.length : Int) by omega, decide_false, Bool.false_eq_true, if_false]
    rw [List.drop_of_length_le (by omega)]; rfl
  | succ m ih =>
    intro n N i hm hn
    obtain ⟨n, rfl⟩ : ∃ q, n = q + 1 := ⟨n - 1, by omega⟩
    have hi : i < l.length := by omega
    have w2 : IntKind.i64.wrap ((i : Int) + 1) = ((i + 1 : Nat) : Int) := by rw [wI (by omega) (by omega)]; omega
    have hg : rd .bool l (i : Int) = l[i] := by
      show l.getD (i : Int).toNat _ = _
      rw [Int.toNat_natCast, List.getD_eq_getElem?_getD, List.getElem?_eq_getElem hi]; rfl
    have I := ih n N (i + 1) (by omega) (by omega)
    rw [List.drop_eq_getElem_cons hi]
    simp only [m_merge_every_l0, m_merge_every_l0_b, show (i : Int) < (l.length : Int) by omega, decide_true, if_true, Int.natCast_nonneg, hg, w2, I, List.all_cons, id]
    cases l[i] <;> rfl
theorem every (l : List Bool) (hl : l.length ≤ 1000) : m_merge_every l = some (l.all id) := by
  unfold m_merge_every m_merge_every_a
  exact every_l0 l hl l.length FUEL FUEL 0 (by omega) (by have := FUEL_big; omega)

def meetB (a b : List Pr) : Bool := decide (a.length = 0) || decide (b.length = 0) || strLt (GP a ((a.length : Int) - 1)).1 (GP b 0).1
def tgE (p q : List Int) : Int := if badS p ≠ 0 then badS p else if badS q ≠ 0 then badS q else if G p 8 ≠ G q 8 then 2 else if highS p = eB then 2 else if highS p ≠ lowS q then 2 else if meetB (pairsS p) (pairsS q) = false then 2 else 0
theorem tgE_spec {p q : List Int} : tgE p q = 0 ↔ srtB p = true ∧ srtB q = true ∧ G p 8 = G q 8 ∧ highS p ≠ eB ∧ highS p = lowS q ∧ meetB (pairsS p) (pairsS q) = true := by
  unfold tgE
  have b1 := badS_zero (p := p)
  have b2 := badS_zero (p := q)
  by_cases c1 : badS p = 0
  · by_cases c2 : badS q = 0
    · rw [c1] at b1; rw [c2] at b2
      have b1 : srtB p = true := by simpa using b1.symm
      have b2 : srtB q = true := by simpa using b2.symm
      rw [if_neg (by simpa using c1), if_neg (by simpa using c2)]
      by_cases c3 : G p 8 = G q 8
      · by_cases c4 : highS p = eB
        · rw [if_neg (by simpa using c3), if_pos c4]
          exact ⟨fun h => by omega, fun h => absurd c4 h.2.2.2.1⟩
        · by_cases c5 : highS p = lowS q
          · rw [if_neg (by simpa using c3), if_neg c4, if_neg (by simpa using c5)]
            cases hm : meetB (pairsS p) (pairsS q) with
            | true => simp [b1, b2, c3, c4, c5]; rw [← c5]; exact c4
            | false => simp
          · rw [if_neg (by simpa using c3), if_neg c4, if_pos c5]
            exact ⟨fun h => by omega, fun h => absurd h.2.2.2.2.1 c5⟩
      · rw [if_pos c3]
        exact ⟨fun h => by omega, fun h => absurd h.2.2.1 c3⟩
    · have hq : srtB q = false := by rw [← b2]; simpa using c2
      rw [if_neg (by simpa using c1), if_pos c2, hq]; simp [c2]
  · have hq : srtB p = false := by rw [← b1]; simpa using c1
    rw [if_pos c1, hq]; simp [c1]

theorem ref18_Bad {p q : List Int} (hp : PageOK p) (hq : PageOK q) : m_ticketlineref18_Bad p q = some (tgE p q) := by
  unfold m_ticketlineref18_Bad tgE
  rw [ref15_Bad hp, ref15_Bad hq]
  simp only [Option.bind_some]
  by_cases c1 : badS p = 0
  · by_cases c2 : badS q = 0
    · have b1 : srtB p = true := by have := badS_zero (p := p); rw [c1] at this; simpa using this.symm
      have b2 : srtB q = true := by have := badS_zero (p := q); rw [c2] at this; simpa using this.symm
      obtain ⟨l1, l1c⟩ := pairsS_len hp (srtB_spec b1).1
      simp only [c1, c2, bne_self_eq_false, Bool.false_eq_true, if_false, ref_Fences hp, ref_Fences hq, ref_Pairs hp (srtB_spec b1).1, ref_Pairs hq (srtB_spec b2).1, Option.bind_some, rd_G, ne_eq, not_true]
      by_cases c3 : G p 8 = G q 8
      · have e3 : (G p 8 != G q 8) = false := by rw [c3]; simp
        by_cases c4 : highS p = eB
        · simp only [e3, bne_self_eq_false, Bool.false_eq_true, if_false, c3, c4, strEq_refl, if_true, not_true]
        · by_cases c5 : highS p = lowS q
          · have d5 : lowS q ≠ eB := by rw [← c5]; exact c4
            have w : IntKind.i64.wrap (((pairsS p).length : Int) - 1) = ((pairsS p).length : Int) - 1 := wI (by omega) (by omega)
            simp only [e3, bne_self_eq_false, Bool.false_eq_true, if_false, c3, strEq_false c4, c5, strEq_refl, strEq_false d5, d5, Bool.not_true, not_true, w, rd_GP, meetB]
            by_cases z1 : (pairsS p).length = 0
            · simp only [z1, decide_true, Bool.true_or, Bool.true_eq_false, if_false, show ¬ ((0 : Nat) : Int) > 0 by omega, decide_false, Bool.false_eq_true]
            · by_cases z2 : (pairsS q).length = 0
              · simp only [z1, z2, decide_true, Bool.true_or, Bool.or_true, Bool.true_eq_false, if_false, show ((pairsS p).length : Int) > 0 by omega, if_true, show ¬ ((0 : Nat) : Int) > 0 by omega, decide_false, Bool.false_eq_true]
              · simp only [z1, z2, decide_false, Bool.false_or, if_false, show ((pairsS p).length : Int) > 0 by omega, show ((pairsS q).length : Int) > 0 by omega, show (0 : Int) < ((pairsS q).length : Int) by omega, decide_true, if_true, show (0 : Int) ≤ ((pairsS p).length : Int) - 1 by omega, show ((pairsS p).length : Int) - 1 < ((pairsS p).length : Int) by omega]
                cases strLt (GP (pairsS p) (((pairsS p).length : Int) - 1)).1 (GP (pairsS q) 0).1 <;> rfl
          · simp only [e3, bne_self_eq_false, Bool.false_eq_true, if_false, c3, strEq_false c4, c4, strEq_false c5, c5, Bool.not_false, if_true, not_true, not_false_eq_true]
      · have e3 : (G p 8 != G q 8) = true := by simpa using c3
        simp only [e3, if_true, c3, not_false_eq_true]
    · have e2 : (badS q != 0) = true := by simpa using c2
      simp only [c1, e2, bne_self_eq_false, Bool.false_eq_true, if_false, if_true, ne_eq, not_true, c2, not_false_eq_true]
  · have e1 : (badS p != 0) = true := by simpa using c1
    simp only [e1, if_true, ne_eq, c1, not_false_eq_true]

abbrev Tog := (ByteArray × (ByteArray × ((List Pr) × (Int × Unit)))) × Int
theorem together_l1 {l : List Pr} (hl : SmallL l) (a b low high : ByteArray) (c : Int) : ∀ (m n N i : Nat) (acc : Int), i + m = l.length → m < n → acc + sumC (l.drop i) = sumC l → 0 ≤ acc → acc ≤ 1000 * i →
    m_merge_together_l1 N n l.length i a b c low high acc l = some ((low, (high, (l, (sumC l, ())))), (0 : Int)) := by
  have hlen := hl.1
  intro m
  induction m with
  | zero =>
    intro n N i acc hm hn ha h0 h1
    obtain ⟨n, rfl⟩ : ∃ q, n = q + 1 := ⟨n - 1, by omega⟩
    rw [List.drop_of_length_le (by omega)] at ha
    have : acc = sumC l := by simpa [sumC] using ha
    simp only [m_merge_together_l1, m_merge_together_l1_b, show ¬ (i : Int) < (l.length : Int) by omega, decide_false, Bool.false_eq_true, if_false, this]
  | succ m ih =>
    intro n N i acc hm hn ha h0 h1
    obtain ⟨n, rfl⟩ : ∃ q, n = q + 1 := ⟨n - 1, by omega⟩
    have hi : i < l.length := by omega
    have hx := hl.2 l[i] (List.getElem_mem hi)
    have hcr := costS_range hx
    have hcost : m_slot_Cost (l[i]).1 (l[i]).2.1 = some (costS l[i]) := slot_Cost (by omega) (by omega)
    have w2 : IntKind.i64.wrap ((i : Int) + 1) = ((i + 1 : Nat) : Int) := by rw [wI (by omega) (by omega)]; omega
    have w3 : IntKind.i64.wrap (acc + costS l[i]) = acc + costS l[i] := wI (by omega) (by omega)
    rw [List.drop_eq_getElem_cons hi] at ha
    have I := ih n N (i + 1) (acc + costS l[i]) (by omega) (by omega) (by simp only [sumC] at ha; omega) (by omega) (by omega)
    simp only [m_merge_together_l1, m_merge_together_l1_b, show (i : Int) < (l.length : Int) by omega, decide_true, if_true, Int.natCast_nonneg, rd_GP, GP_get hi, hcost, Option.bind_some, w2, w3, I]
end Go.Ev.L
