/- Merging: what two neighbours have together. -/
import Derived.Test.YtakncomdmgbjaaaT1
set_option linter.unusedVariables false
set_option linter.unusedSimpArgs false
set_option linter.unusedSectionVars false
set_option maxRecDepth 10000
namespace Go.Ev.L
open Go Go.Ev Go.Ev.M

structure Fit (leaf : Bool) (l : List Pr) : Prop where
  err : errF leaf l 0 l.length = 0
  small : SmallL l
  size : ∀ x, x ∈ l → x.1.size ≤ 24 ∧ x.2.1.size ≤ 40 ∧ costS x ≤ 9
section
variable {leaf : Bool} {l : List Pr} (h : Fit leaf l)
include h
theorem Fit.take (i : Nat) : Fit leaf (l.take i) := by
  refine ⟨err_of (fun k hk => ?_) (srt_of fun j k hj hk => ?_), h.small.take i, fun x hx => h.size x (List.mem_of_mem_take hx)⟩
  · rw [List.getElem_take]; exact err_allowed h.err k (by rw [List.length_take] at hk; omega)
  · rw [List.getElem_take, List.getElem_take]; exact srt_lt (err_sorted h.err) j k hj (by rw [List.length_take] at hk; omega)
theorem Fit.drop {i : Nat} (h1 : 1 ≤ i) : Fit leaf (l.drop i) := by
  refine ⟨err_of (fun k hk => ?_) (srt_of fun j k hj hk => ?_), h.small.drop i, fun x hx => h.size x (List.mem_of_mem_drop hx)⟩
  · rw [List.length_drop] at hk
    have ha := err_allowed h.err (i + k) (by omega)
    rw [List.getElem_drop]
    obtain ⟨a1, a2, a3, a4⟩ := allowed_spec ha
    unfold allowedS
    rw [if_neg (fun h => a1 ⟨h.1, .inr (by omega)⟩), if_neg (fun h => by rw [a2 h.1] at h; cases h.2), if_neg (by omega)]
  · rw [List.length_drop] at hk
    rw [List.getElem_drop, List.getElem_drop]
    exact srt_lt (err_sorted h.err) (i + j) (i + k) (by omega) (by omega)
theorem Fit.key {i : Nat} (h1 : 1 ≤ i) (hi : i < l.length) : (l[i]).1 ≠ eB ∧ (l[i]).1.size ≤ 24 := by
  refine ⟨fun e => ?_, (h.size _ (List.getElem_mem hi)).1⟩
  have := srt_lt (err_sorted h.err) 0 i (by omega) hi
  rw [e, strLt_empty] at this
  cases this
end
theorem sorted_fit {p : List Int} (hp : PageOK p) (hs : srtB p = true) : Fit (G p 8 - 1 == 0) (pairsS p) := by
  obtain ⟨h1, h2, h3⟩ := srt_small hp hs
  have := srt_take hp hs (i := (pairsS p).length) (Nat.le_refl _)
  rw [List.take_length] at this
  exact ⟨this, h1, h2⟩

section
variable {p q : List Int} (hp : PageOK p) (hq : PageOK q) (ht : tgE p q = 0)
include hp hq ht
theorem both_fit : Fit (G p 8 - 1 == 0) (pairsS p ++ pairsS q) ∧ sumC (pairsS p ++ pairsS q) = sumC (pairsS p) + sumC (pairsS q) ∧ sumC (pairsS p ++ pairsS q) ≤ 216 := by
  obtain ⟨s1, s2, e8, e1, e2, hm⟩ := tgE_spec.1 ht
  have f1 := sorted_fit hp s1
  have f2 := sorted_fit hq s2
  obtain ⟨l1, l1c⟩ := pairsS_len hp (srtB_spec s1).1
  obtain ⟨l2, l2c⟩ := pairsS_len hq (srtB_spec s2).1
  have c1 := (count_le hp (srtB_spec s1).1).1
  have c2 := (count_le hq (srtB_spec s2).1).1
  obtain ⟨_, _, u1⟩ := srt_small hp s1
  obtain ⟨_, _, u2⟩ := srt_small hq s2
  have hsum := sumC_append (pairsS p) (pairsS q)
  have hq8 : (G q 8 - 1 == 0) = (G p 8 - 1 == 0) := by rw [e8]
  rw [hq8] at f2
  have hlt : ∀ (j k : Nat) (hj : j < (pairsS p).length) (hk : k < (pairsS q).length), strLt ((pairsS p)[j]).1 ((pairsS q)[k]).1 = true := by
    intro j k hj hk
    have hm' : strLt (GP (pairsS p) (((pairsS p).length : Int) - 1)).1 (GP (pairsS q) 0).1 = true := by
      simpa [meetB, show ¬ (pairsS p).length = 0 by omega, show ¬ (pairsS q).length = 0 by omega] using hm
    have g1 : GP (pairsS p) (((pairsS p).length : Int) - 1) = (pairsS p)[(pairsS p).length - 1]'(by omega) := by
      rw [show ((pairsS p).length : Int) - 1 = (((pairsS p).length - 1 : Nat) : Int) by omega, GP_get]
    have g2 : GP (pairsS q) 0 = (pairsS q)[0]'(by omega) := by
      have := GP_get (l := pairsS q) (i := 0) (by omega)
      exact this
    rw [g1, g2] at hm'
    have a : strLt ((pairsS p)[j]).1 ((pairsS q)[0]'(by omega)).1 = true := by
      by_cases e : j = (pairsS p).length - 1
      · subst e; exact hm'
      · exact strLt_trans (srt_lt (err_sorted f1.err) j ((pairsS p).length - 1) (by omega) (by omega)) hm'
    by_cases e : k = 0
    · subst e; exact a
    · exact strLt_trans a (srt_lt (err_sorted f2.err) 0 k (by omega) hk)
  refine ⟨⟨err_of (fun k hk => ?_) (srt_of fun j k hj hk => ?_), ⟨by rw [List.length_append]; omega, fun x hx => ?_⟩, fun x hx => ?_⟩, hsum, by omega⟩
  · rw [List.length_append] at hk
    by_cases c : k < (pairsS p).length
    · rw [List.getElem_append_left c]; exact err_allowed f1.err k c
    · rw [List.getElem_append_right (by omega)]
      have ha := err_allowed f2.err (k - (pairsS p).length) (by omega)
      obtain ⟨a1, a2, a3, a4⟩ := allowed_spec ha
      unfold allowedS
      rw [if_neg ?_, if_neg (fun h => by rw [a2 h.1] at h; cases h.2), if_neg (by omega)]
      rintro ⟨h1, h2⟩
      by_cases z : (pairsS p).length = 0
      · exact a1 ⟨h1, by rcases h2 with h | h; exact .inl h; exact .inr (by omega)⟩
      · have := hlt 0 (k - (pairsS p).length) (by omega) (by omega)
        rw [h1, strLt_empty] at this; cases this
  · rw [List.length_append] at hk
    by_cases c : k < (pairsS p).length
    · rw [List.getElem_append_left c, List.getElem_append_left (by omega)]; exact srt_lt (err_sorted f1.err) j k hj c
    · by_cases d : j < (pairsS p).length
      · rw [List.getElem_append_left d, List.getElem_append_right (by omega)]; exact hlt j _ d (by omega)
      · rw [List.getElem_append_right (by omega), List.getElem_append_right (by omega)]
        exact srt_lt (err_sorted f2.err) _ _ (by omega) (by omega)
  · rcases List.mem_append.1 hx with h | h
    · exact f1.small.2 x h
    · exact f2.small.2 x h
  · rcases List.mem_append.1 hx with h | h
    · exact f1.size x h
    · exact f2.size x h
end

def bothL (p q : List Int) : List Pr := pairsS p ++ pairsS q
def togR (p q : List Int) : Tog := if tgE p q = 0 then ((lowS p, (highS q, (bothL p q, (sumC (bothL p q), ())))), 0) else ((eB, (eB, ([], ((0 : Int), ())))), tgE p q)

theorem merge_together {p q : List Int} (hp : PageOK p) (hq : PageOK q) : m_merge_together p q = some (togR p q) := by
  unfold m_merge_together m_merge_together_a
  obtain ⟨n, hn⟩ : ∃ n, FUEL = n + 3 := ⟨FUEL - 3, by have := FUEL_big; omega⟩
  have hN : 10000 < FUEL := by have := FUEL_big; omega
  generalize FUEL = N at hn hN
  subst hn
  dsimp only
  have k0 : rd (.arr 128 (.int .u64)) [p, q] 0 = p := rfl
  have k1 : rd (.arr 128 (.int .u64)) [p, q] 1 = q := rfl
  have w1 : IntKind.i64.wrap (0 + 1) = 1 := by decide
  have w2 : IntKind.i64.wrap (1 + 1) = 2 := by decide
  have ll : (([p, q] : List (List Int)).length : Int) = 2 := rfl
  rw [m_merge_together_l0]
  simp only [m_merge_together_l0_b, ll, show (0 : Int) < 2 by omega, decide_true, if_true, Int.le_refl, k0, merge_check hp, Option.bind_some]
  by_cases c1 : badS p = 0
  · simp only [c1, bne_self_eq_false, Bool.false_eq_true, if_false, w1]
    rw [m_merge_together_l0]
    simp only [m_merge_together_l0_b, ll, show (1 : Int) < 2 by omega, show (0 : Int) ≤ 1 by omega, decide_true, if_true, Int.le_refl, k1, merge_check hq, Option.bind_some]
    by_cases c2 : badS q = 0
    · have b1 : srtB p = true := by have := badS_zero (p := p); rw [c1] at this; simpa using this.symm
      have b2 : srtB q = true := by have := badS_zero (p := q); rw [c2] at this; simpa using this.symm
      have v1 := (srtB_spec b1).1
      have v2 := (srtB_spec b2).1
      obtain ⟨l1, l1c⟩ := pairsS_len hp v1
      obtain ⟨l2, l2c⟩ := pairsS_len hq v2
      simp only [c2, bne_self_eq_false, Bool.false_eq_true, if_false, w2]
      rw [m_merge_together_l0]
      have w : IntKind.i64.wrap (((pairsS p).length : Int) - 1) = ((pairsS p).length : Int) - 1 := wI (by omega) (by omega)
      have hf : fits ((pairsS p).length + (pairsS q).length) 32 := by unfold fits; omega
      have hsm : SmallL (pairsS p ++ pairsS q) := by
        have f1 := (sorted_fit hp b1).small
        have f2 := (sorted_fit hq b2).small
        have c1 := (count_le hp v1).1
        have c2 := (count_le hq v2).1
        exact ⟨by rw [List.length_append]; omega, fun x hx => by rcases List.mem_append.1 hx with h | h; exact f1.2 x h; exact f2.2 x h⟩
      have L1 := fun a b c low high => together_l1 hsm a b low high c (pairsS p ++ pairsS q).length (n + 3) (n + 3) 0 0 (by omega) (by have := hsm.1; omega) (by simp) (by omega) (by omega)
      have key : ∀ (mt : Bool) (mE : meetB (pairsS p) (pairsS q) = mt) (Y : Option Tog), Y = some ((lowS p, (highS q, (bothL p q, (sumC (bothL p q), ())))), (0 : Int)) → (Option.bind (m_merge_every [(G p 8 - 1 == G q 8 - 1), (!strEq (highS p) eB), (strEq (highS p) (lowS q)), mt]) fun r20 => if (!r20) = true then some ((eB, (eB, (([] : List Pr), ((0 : Int), ())))), (2 : Int)) else Y) = some (togR p q) := by
        intro mt mE Y hY
        rw [every _ (by simp)]
        simp only [Option.bind_some, List.all_cons, List.all_nil, Bool.and_true, id]
        by_cases h : tgE p q = 0
        · obtain ⟨_, _, e8, d1, d2, hm⟩ := tgE_spec.1 h
          rw [mE] at hm
          have d3 : lowS q ≠ eB := by rw [← d2]; exact d1
          simp only [e8, d2, strEq_refl, hm, beq_self_eq_true, strEq_false d3, Bool.not_false, Bool.and_true, Bool.not_true, Bool.false_eq_true, if_false, togR, h, if_true, hY]
        · have h2 : tgE p q = 2 := by
            unfold tgE at h ⊢
            rw [if_neg (by simpa using c1), if_neg (by simpa using c2)] at h ⊢
            by_cases e3 : G p 8 ≠ G q 8
            · rw [if_pos e3]
            by_cases e4 : highS p = eB
            · rw [if_neg e3, if_pos e4]
            by_cases e5 : highS p ≠ lowS q
            · rw [if_neg e3, if_neg e4, if_pos e5]
            by_cases e6 : meetB (pairsS p) (pairsS q) = false
            · rw [if_neg e3, if_neg e4, if_neg e5, if_pos e6]
            · rw [if_neg e3, if_neg e4, if_neg e5, if_neg e6] at h; exact absurd rfl h
          have hx : ((G p 8 - 1 == G q 8 - 1) && ((!strEq (highS p) eB) && ((strEq (highS p) (lowS q)) && mt))) = false := by
            cases hx : ((G p 8 - 1 == G q 8 - 1) && ((!strEq (highS p) eB) && ((strEq (highS p) (lowS q)) && mt))) with
            | false => rfl
            | true =>
              exfalso
              simp only [Bool.and_eq_true, Bool.not_eq_true', strEq_iff, beq_iff_eq] at hx
              obtain ⟨x1, x2, x3, x4⟩ := hx
              refine h (tgE_spec.2 ⟨b1, b2, by omega, fun e => ?_, x3, mE.trans x4⟩)
              rw [e, strEq_refl] at x2; cases x2
          simp only [hx, Bool.not_false, if_true, togR]
          rw [if_neg h, h2]
      simp only [m_merge_together_l0_b, ll, Int.lt_irrefl, decide_false, Bool.false_eq_true, if_false, slot_Fences hp, slot_Fences hq, slot_Pairs hp, slot_Pairs hq, slot_Level hp, slot_Level hq, v1, v2, if_true, Option.bind_some, hf, L1]
      by_cases z1 : (pairsS p).length = 0
      · have z1' : (((pairsS p).length : Int) == 0) = true := by simp [z1]
        simp only [z1', if_true]
        exact key true (by simp [meetB, z1]) _ (L1 _ _ _ _ _)
      · have z1' : (((pairsS p).length : Int) == 0) = false := beq_eq_false_iff_ne.2 (by omega)
        simp only [z1', Bool.false_eq_true, if_false]
        by_cases z2 : (pairsS q).length = 0
        · have z2' : (((pairsS q).length : Int) == 0) = true := by simp [z2]
          simp only [z2', if_true]
          exact key true (by simp [meetB, z2]) _ (L1 _ _ _ _ _)
        · have z2' : (((pairsS q).length : Int) == 0) = false := beq_eq_false_iff_ne.2 (by omega)
          simp only [z2', Bool.false_eq_true, if_false, w, show (0 : Int) ≤ ((pairsS p).length : Int) - 1 by omega, show ((pairsS p).length : Int) - 1 < ((pairsS p).length : Int) by omega, show (0 : Int) < ((pairsS q).length : Int) by omega, if_true, rd_GP, keys_Compare, Option.bind_some]
          refine key _ ?_ _ (L1 _ _ _ _ _)
          simp only [meetB, z1, z2, decide_false, Bool.false_or]
          rw [Bool.eq_iff_iff, decide_eq_true_iff, cmp_lt]
    · have e2 : (badS q != 0) = true := by simpa using c2
      have ht : tgE p q = badS q := by unfold tgE; rw [if_neg (by simpa using c1), if_pos c2]
      simp only [e2, if_true, togR, ht, c2, if_false]
  · have e1 : (badS p != 0) = true := by simpa using c1
    have ht : tgE p q = badS p := by unfold tgE; rw [if_pos c1]
    simp only [e1, if_true, togR, ht, c1, if_false]
def fitR (p q : List Int) : Bool × Int := if tgE p q = 0 then (decide (sumC (bothL p q) ≤ 108), 0) else (false, tgE p q)
theorem merge_Fits {p q : List Int} (hp : PageOK p) (hq : PageOK q) : m_merge_Fits p q = some (fitR p q) := by
  unfold m_merge_Fits fitR
  rw [merge_together hp hq]
  unfold togR
  by_cases h : tgE p q = 0
  · simp only [h, if_true, Option.bind_some, beq_self_eq_true]
  · have : (tgE p q == 0) = false := by simpa using h
    simp only [h, if_false, Option.bind_some, this, Bool.false_eq_true]
theorem fits18 {p q : List Int} (hp : PageOK p) (hq : PageOK q) {b : Bool} {e : Int} (h : fitR p q = (b, e)) : m_ticketlinelaw18_fits p q b e = some true := by
  unfold m_ticketlinelaw18_fits; rw [merge_Fits hp hq, h]; simp
end Go.Ev.L
