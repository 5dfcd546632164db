/- Law 18: all ways to part slots; the stage's theorem. -/
import Derived.Test.YtakncomdmgbjaaaT4
set_option linter.unusedVariables false
set_option linter.unusedSimpArgs false
set_option linter.unusedSectionVars false
set_option maxRecDepth 10000
namespace Go.Ev.L
open Go Go.Ev Go.Ev.M

theorem mergeRows_l0' {a b : Int} {lo hi : ByteArray} {l : List Pr} {gaps : List Int} {sp : List Sp} (hg : U8 gaps) (hn : b < 9223372036854775808) (hl : l.length ≤ 60) : ∀ (m n N i : Nat), i + m = max i l.length → m < n → i ≤ 1000 →
    m_ticketlinelaw18_MergeRows_l0 N n i a b lo hi l gaps sp = some true := by
  intro m
  induction m with
  | zero =>
    intro n N i hm hn' hi'
    obtain ⟨n, rfl⟩ : ∃ q, n = q + 1 := ⟨n - 1, by omega⟩
    simp only [m_ticketlinelaw18_MergeRows_l0, m_ticketlinelaw18_MergeRows_l0_b, show ¬ (i : Int) < (l.length : Int) by omega, decide_false, Bool.false_eq_true, if_false, known18, Option.bind_some]
  | succ m ih =>
    intro n N i hm hn' hi'
    obtain ⟨n, rfl⟩ : ∃ q, n = q + 1 := ⟨n - 1, by omega⟩
    have w2 : IntKind.i64.wrap ((i : Int) + 1) = ((i + 1 : Nat) : Int) := by rw [wI (by omega) (by omega)]; omega
    have IH := ih n N (i + 1) (by omega) (by omega) (by omega)
    have o1 : PlnOK (a, b, lo, (GP l (i : Int)).1, win l 0 ((i : Int) - 0), gaps, [], ()) := ⟨hg, fun y hy => (by cases hy), hn⟩
    have o2 : PlnOK (a, b, (GP l (i : Int)).1, hi, win l (i : Int) ((l.length : Int) - i), gaps, [], ()) := ⟨hg, fun y hy => (by cases hy), hn⟩
    obtain ⟨p, c, h1, h2, h3, h4⟩ := plan_used o1
    obtain ⟨q, d, g1, g2, g3, g4⟩ := plan_used o2
    simp only [m_ticketlinelaw18_MergeRows_l0, m_ticketlinelaw18_MergeRows_l0_b, show (i : Int) < (l.length : Int) by omega, show (i : Int) ≤ (l.length : Int) by omega, decide_true, if_true, Int.natCast_nonneg, Int.le_refl, rd_GP, h4, g4, Option.bind_some, known18, right18 h2 g2, right18 g2 h2, Bool.not_true, Bool.false_eq_true, if_false, w2, IH]
    cases (c && validB p) <;> cases (d && validB q) <;> rfl
theorem mergeRows_true {x : Pln} (h : PlnOK x) : m_ticketlinelaw18_MergeRows x = some true := by
  obtain ⟨p, b, h1, h2, h3, h4⟩ := plan_used h
  unfold m_ticketlinelaw18_MergeRows m_ticketlinelaw18_MergeRows_a
  rw [h4]
  simp only [Option.bind_some, known18]
  by_cases c : (b && validB p) = true
  · have hb : b = true := by simp only [Bool.and_eq_true] at c; exact c.1
    simp only [c, Bool.not_true, Bool.false_eq_true, if_false, ref15_Bad h2, Option.bind_some]
    cases hs : srtB p with
    | false => simp only [badS_bne hs, if_true]
    | true =>
      have hz : badS p = 0 := by have := badS_zero (p := p); rw [hs] at this; simpa using this
      simp only [hz, bne_self_eq_false, Bool.false_eq_true, if_false]
      exact mergeRows_l0' h.gaps h.next (h3 hb).1 (x.2.2.2.2.1.length - 1) FUEL FUEL 1 (by omega) (by have := FUEL_big; have := (h3 hb).1; omega) (by omega)
  · have c' : (b && validB p) = false := by simpa using c
    simp only [c', Bool.not_false, if_true]

section
variable {p q : List Int} (hp : PageOK p) (hq : PageOK q) (ht : tgE p q = 0)
include hp hq ht
theorem merge_spec : (∃ r, m_merge_Merge p q = some (r, 0) ∧ sumC (bothL p q) ≤ 108 ∧ PageOK r ∧ validB r = true ∧ pairsS r = bothL p q) ∨ (∃ r, m_merge_Merge p q = some (r, 7) ∧ ¬ sumC (bothL p q) ≤ 108) ∨ (∃ r, m_merge_Merge p q = some (r, 13)) := by
  obtain ⟨s1, s2, e8, d1, d2, hm⟩ := tgE_spec.1 ht
  obtain ⟨F, hs, hs2⟩ := both_fit hp hq ht
  have F : Fit (G p 8 - 1 == 0) (bothL p q) := F
  have v1 := (srtB_spec s1).1
  have v2 := (srtB_spec s2).1
  have h1 := head_spec (valid_head v1)
  have h2 := head_spec (valid_head v2)
  have h10 := hq.2.G 10
  obtain ⟨z1, _⟩ := lowS_size hp
  obtain ⟨_, z2⟩ := lowS_size hq
  rw [merge_Merge hp hq]
  unfold mergeR
  by_cases c : sumC (bothL p q) > 108
  · have e : mergeE p q = 7 := by unfold mergeE; rw [if_neg (by simpa using ht), if_pos c]
    exact .inr (.inl ⟨zP, by rw [if_neg (by omega), e], by omega⟩)
  by_cases d : highS q ≠ eB ∧ strLt (lowS p) (highS q) = false
  · have e : mergeE p q = 13 := by unfold mergeE; rw [if_neg (by simpa using ht), if_neg c, if_pos d]
    exact .inr (.inr ⟨zP, by rw [if_neg (by omega), e]⟩)
  · have e : mergeE p q = 0 := by unfold mergeE; rw [if_neg (by simpa using ht), if_neg c, if_neg d]
    have G1 := of_made (low := lowS p) (high := highS q) (next := G q 10) F rfl (by omega) (by omega) z1 z2 (by omega) (by omega) d (by omega)
    have K := keepS_facts hp G1.1 G1.2.1
    exact .inl ⟨_, by rw [if_pos e], by omega, keepS_page hp G1.1, K.1, K.2.1.trans G1.2.2.1⟩

structure Even (p q a b : List Int) (k : ByteArray) : Prop where
  pa : PageOK a
  pb : PageOK b
  va : validB a = true
  vb : validB b = true
  tg : tgE a b = 0
  pairs : bothL a b = bothL p q
  even : sumC (pairsS a) - sumC (pairsS b) ≤ 9 ∧ -9 ≤ sumC (pairsS a) - sumC (pairsS b)
  sum : sumC (pairsS a) + sumC (pairsS b) = sumC (bothL p q)
  small : SmallL (pairsS a) ∧ SmallL (pairsS b) ∧ SmallL (bothL p q)
theorem borrow_spec : (m_merge_Borrow p q = some (zP, zP, eB, 9) ∧ (bothL p q).length < 2) ∨ (m_merge_Borrow p q = some (zP, zP, eB, 7) ∧ ¬ sumC (bothL p q) ≤ 108) ∨ (m_merge_Borrow p q = some (zP, zP, eB, 13)) ∨
    (∃ a b k, m_merge_Borrow p q = some (a, b, k, 0) ∧ Even p q a b k) := by
  obtain ⟨s1, s2, e8, d1, d2, hm⟩ := tgE_spec.1 ht
  obtain ⟨F, hs, hs2⟩ := both_fit hp hq ht
  have F : Fit (G p 8 - 1 == 0) (bothL p q) := F
  have v1 := (srtB_spec s1).1
  have v2 := (srtB_spec s2).1
  have g1 := head_spec (valid_head v1)
  have g2 := head_spec (valid_head v2)
  have p10 := hp.2.G 10
  have q10 := hq.2.G 10
  obtain ⟨z1, _⟩ := lowS_size hp
  obtain ⟨_, z2⟩ := lowS_size hq
  rw [merge_Borrow hp hq]
  unfold borrowR
  by_cases c2 : (bothL p q).length < 2
  · have e : borrowE p q = 9 := by unfold borrowE; rw [if_neg (by simpa using ht), if_pos c2]
    exact .inl ⟨by rw [if_neg (by omega), e], c2⟩
  have h2 : 2 ≤ (bothL p q).length := by omega
  obtain ⟨e, h1, hr, hd, hg, hk, k1, k2⟩ := cut_spec hp hq ht h2
  obtain ⟨u1, u2, u3, u4⟩ := cut_sum hp hq ht h2
  by_cases c3 : pre (bothL p q) (cutN p q) > 108 ∨ sumC ((bothL p q).drop (cutN p q)) > 108
  · have e : borrowE p q = 7 := by unfold borrowE; rw [if_neg (by simpa using ht), if_neg c2, if_pos c3]
    exact .inr (.inl ⟨by rw [if_neg (by omega), e], by omega⟩)
  cases c4 : strLt (lowS p) (cutK p q) with
  | false =>
    have e : borrowE p q = 13 := by unfold borrowE; rw [if_neg (by simpa using ht), if_neg c2, if_neg c3, if_pos c4]
    exact .inr (.inr (.inl (by rw [if_neg (by omega), e])))
  | true =>
    by_cases c5 : highS q ≠ eB ∧ strLt (cutK p q) (highS q) = false
    · have e : borrowE p q = 13 := by unfold borrowE; rw [if_neg (by simpa using ht), if_neg c2, if_neg c3, if_neg (by rw [c4]; simp), if_pos c5]
      exact .inr (.inr (.inl (by rw [if_neg (by omega), e])))
    · have eE : borrowE p q = 0 := by unfold borrowE; rw [if_neg (by simpa using ht), if_neg c2, if_neg c3, if_neg (by rw [c4]; simp), if_neg c5]
      have F1 := F.take (cutN p q)
      have F2 := F.drop h1
      obtain ⟨a1, a2, a3, a4, a5, a6, a7, a8, a9, a10⟩ := of_made (low := lowS p) (high := cutK p q) (next := G p 10) F1 rfl (by omega) (by omega) z1 k2 (by omega) (by omega) (by rw [c4]; simp) (by unfold pre at c3; omega)
      obtain ⟨b1, b2, b3, b4, b5, b6, b7, b8, b9, b10⟩ := of_made (low := cutK p q) (high := highS q) (next := G q 10) F2 rfl (by omega) (by omega) k2 z2 (by omega) (by omega) c5 (by omega)
      obtain ⟨x1, x2, x3, x4, x5⟩ := keepS_facts hp a1 a2
      obtain ⟨y1, y2, y3, y4, y5⟩ := keepS_facts hq b1 b2
      refine .inr (.inr (.inr ⟨_, _, _, by rw [if_pos eE], ?_⟩))
      have hpre : pre (bothL p q) (cutN p q) = sumC ((bothL p q).take (cutN p q)) := rfl
      have hlt : ((bothL p q).take (cutN p q)).length = cutN p q := by rw [List.length_take]; omega
      have hld : ((bothL p q).drop (cutN p q)).length = (bothL p q).length - cutN p q := List.length_drop
      have sa : srtB (keepS (ofS (G p 8 - 1) (lowS p) (cutK p q) (G p 10) ((bothL p q).take (cutN p q))) p) = true := by unfold srtB at a10 ⊢; rw [x1, x2]; rw [a2] at a10; exact a10
      have sb : srtB (keepS (ofS (G p 8 - 1) (cutK p q) (highS q) (G q 10) ((bothL p q).drop (cutN p q))) q) = true := by unfold srtB at b10 ⊢; rw [y1, y2]; rw [b2] at b10; exact b10
      refine { pa := keepS_page hp a1, pb := keepS_page hq b1, va := x1, vb := y1, tg := tgE_spec.2 ⟨sa, sb, ?_, ?_, ?_, ?_⟩, pairs := ?_, even := ?_, sum := ?_, small := ⟨?_, ?_, F.small⟩ }
      · rw [x5 8 (by omega) (by omega), y5 8 (by omega) (by omega), a6, b6]
      · rw [x4, a5]; exact k1
      · rw [x4, a5, y3, b4]
      · unfold meetB
        rw [x2, a3, y2, b3, hlt, hld]
        have t1 : GP ((bothL p q).take (cutN p q)) ((cutN p q : Int) - 1) = (bothL p q)[cutN p q - 1]'(by omega) := by
          rw [show (cutN p q : Int) - 1 = ((cutN p q - 1 : Nat) : Int) by omega, GP_get (by omega), List.getElem_take]
        have t2 : GP ((bothL p q).drop (cutN p q)) 0 = (bothL p q)[cutN p q] := by
          have := GP_get (l := (bothL p q).drop (cutN p q)) (i := 0) (by omega)
          refine this.trans ?_
          rw [List.getElem_drop]; rfl
        rw [t1, t2, srt_lt (err_sorted F.err) _ _ (by omega) hr]
        simp only [Bool.or_true]
      · show pairsS _ ++ pairsS _ = bothL p q; rw [x2, y2, a3, b3]; exact List.take_append_drop _ _
      · rw [x2, a3, y2, b3]
        unfold distS at hd
        by_cases c : 2 * pre (bothL p q) (cutN p q) - sumC (bothL p q) < 0
        · rw [if_pos c] at hd; omega
        · rw [if_neg c] at hd; omega
      · rw [x2, a3, y2, b3]; omega
      · rw [x2, a3]; exact F1.small
      · rw [y2, b3]; exact F2.small
end

theorem mergeHolds_true {x y : Pln} (hx : PlnOK x) (hy : PlnOK y) : m_ticketlinelaw18_MergeHolds x y = some true := by
  obtain ⟨p, u, x1, hp, x3, x4⟩ := plan_used hx
  obtain ⟨q, v, y1, hq, y3, y4⟩ := plan_used hy
  unfold m_ticketlinelaw18_MergeHolds
  rw [x4, y4]
  simp only [Option.bind_some, known18]
  cases c1 : (u && validB p) with
  | false => simp only [Bool.not_false, if_true]
  | true =>
  cases c2 : (v && validB q) with
  | false => simp only [Bool.not_false, if_true, Bool.not_true, Bool.false_eq_true, if_false]
  | true =>
  simp only [Bool.not_true, Bool.false_eq_true, if_false, merge_Fits hp hq, Option.bind_some]
  by_cases ht : tgE p q = 0
  · obtain ⟨s1, s2, e8, d1, d2, hm⟩ := tgE_spec.1 ht
    obtain ⟨F, hs, hs2⟩ := both_fit hp hq ht
    have F : Fit (G p 8 - 1 == 0) (bothL p q) := F
    have v1 := (srtB_spec s1).1
    have v2 := (srtB_spec s2).1
    have hF : fitR p q = (decide (sumC (bothL p q) ≤ 108), 0) := by unfold fitR; rw [if_pos ht]
    have hf : fits ((pairsS p).length + (pairsS q).length) 32 := by have := F.small.1; unfold bothL at this; rw [List.length_append] at this; unfold fits; omega
    have hL : pairsS p ++ pairsS q = bothL p q := rfl
    obtain ⟨pa, hPa⟩ : ∃ pa, m_merge_Poor p = some (pa, 0) := ⟨_, by rw [merge_Poor hp]; unfold poorR; rw [if_pos s1]⟩
    obtain ⟨pb, hPb⟩ : ∃ pb, m_merge_Poor q = some (pb, 0) := ⟨_, by rw [merge_Poor hq]; unfold poorR; rw [if_pos s2]⟩
    have hlen := F.small.1
    simp only [hF, bne_self_eq_false, Bool.false_eq_true, if_false, ref_Pairs hp v1, ref_Pairs hq v2, Option.bind_some, hf, if_true, hL]
    rcases merge_spec hp hq ht with ⟨r, hM, f1, f2, f3, f4⟩ | ⟨r, hM, f1⟩ | ⟨r, hM⟩
    · rcases borrow_spec hp hq ht with ⟨hB, hb⟩ | ⟨hB, hb⟩ | hB | ⟨a, b, k, hB, E⟩
      · simp only [f1, ref_Valid f2, f3, ref_Pairs f2 f3, f4, same_refl _ hlen, decide_true, Bool.not_true, hM, hB, hPa, hPb, Option.bind_some, Int.reduceBEq, Int.reduceBNe, if_true, Bool.false_eq_true, if_false, strEq_refl, known18, show ((bothL p q).length : Int) < 2 by omega, decide_true]
      · exact absurd f1 hb
      · simp only [f1, ref_Valid f2, f3, ref_Pairs f2 f3, f4, same_refl _ hlen, decide_true, Bool.not_true, hM, hB, hPa, hPb, Option.bind_some, Int.reduceBEq, Int.reduceBNe, if_true, Bool.false_eq_true, if_false, strEq_refl, known18]
      · obtain ⟨k1, k2, k3, k4, k5, k6, ⟨k7, k7'⟩, k8, ⟨k9, k10, k11⟩⟩ := E
        have a1 := sumC_le k9.2
        have a2 := sumC_le k10.2
        have l1 := k9.1
        have l2 := k10.1
        have hf2 : fits ((pairsS a).length + (pairsS b).length) 32 := by unfold fits; omega
        have hL2 : pairsS a ++ pairsS b = bothL p q := k6
        have hF2 : m_merge_Fits a b = some (decide (sumC (bothL a b) ≤ 108), 0) := by rw [merge_Fits k1 k2]; unfold fitR; rw [if_pos k5]
        have w1 : IntKind.i64.wrap (sumC (pairsS a) - sumC (pairsS b)) = sumC (pairsS a) - sumC (pairsS b) := wI (by omega) (by omega)
        have w2 : IntKind.i64.wrap (sumC (pairsS b) - sumC (pairsS a)) = sumC (pairsS b) - sumC (pairsS a) := wI (by omega) (by omega)
        simp only [f1, ref_Valid f2, f3, ref_Pairs f2 f3, f4, same_refl _ hlen, decide_true, Bool.not_true, hM, hB, hPa, hPb, Option.bind_some, Int.reduceBEq, Int.reduceBNe, if_true, Bool.false_eq_true, if_false, strEq_refl, known18, ref_Valid k1, ref_Valid k2, k3, k4, ref_Pairs k1 k3, ref_Pairs k2 k4, hf2, hL2, same_refl _ hlen, hF2, ref_Sum k9, ref_Sum k10, w1, w2, Bool.not_true, show ¬ sumC (pairsS a) - sumC (pairsS b) > 9 by omega, show ¬ sumC (pairsS b) - sumC (pairsS a) > 9 by omega, decide_false]
        cases pa <;> cases pb <;> rfl
    · rcases borrow_spec hp hq ht with ⟨hB, hb⟩ | ⟨hB, hb⟩ | hB | ⟨a, b, k, hB, E⟩
      · simp only [f1, decide_false, Bool.not_false, hM, hB, hPa, hPb, Option.bind_some, Int.reduceBEq, Int.reduceBNe, if_true, Bool.false_eq_true, if_false, strEq_refl, known18, show ((bothL p q).length : Int) < 2 by omega, decide_true]
      · simp only [f1, decide_false, Bool.not_false, hM, hB, hPa, hPb, Option.bind_some, Int.reduceBEq, Int.reduceBNe, if_true, Bool.false_eq_true, if_false, strEq_refl, known18, hb, decide_false, Bool.not_false]
      · simp only [f1, decide_false, Bool.not_false, hM, hB, hPa, hPb, Option.bind_some, Int.reduceBEq, Int.reduceBNe, if_true, Bool.false_eq_true, if_false, strEq_refl, known18]
      · obtain ⟨k1, k2, k3, k4, k5, k6, ⟨k7, k7'⟩, k8, ⟨k9, k10, k11⟩⟩ := E
        have a1 := sumC_le k9.2
        have a2 := sumC_le k10.2
        have l1 := k9.1
        have l2 := k10.1
        have hf2 : fits ((pairsS a).length + (pairsS b).length) 32 := by unfold fits; omega
        have hL2 : pairsS a ++ pairsS b = bothL p q := k6
        have hF2 : m_merge_Fits a b = some (decide (sumC (bothL a b) ≤ 108), 0) := by rw [merge_Fits k1 k2]; unfold fitR; rw [if_pos k5]
        have w1 : IntKind.i64.wrap (sumC (pairsS a) - sumC (pairsS b)) = sumC (pairsS a) - sumC (pairsS b) := wI (by omega) (by omega)
        have w2 : IntKind.i64.wrap (sumC (pairsS b) - sumC (pairsS a)) = sumC (pairsS b) - sumC (pairsS a) := wI (by omega) (by omega)
        simp only [f1, decide_false, Bool.not_false, hM, hB, hPa, hPb, Option.bind_some, Int.reduceBEq, Int.reduceBNe, if_true, Bool.false_eq_true, if_false, strEq_refl, known18, ref_Valid k1, ref_Valid k2, k3, k4, ref_Pairs k1 k3, ref_Pairs k2 k4, hf2, hL2, same_refl _ hlen, hF2, ref_Sum k9, ref_Sum k10, w1, w2, Bool.not_true, show ¬ sumC (pairsS a) - sumC (pairsS b) > 9 by omega, show ¬ sumC (pairsS b) - sumC (pairsS a) > 9 by omega, decide_false, show sumC (pairsS a) ≥ 36 by omega, show sumC (pairsS b) ≥ 36 by omega, decide_true]
        cases pa <;> cases pb <;> rfl
    · rcases borrow_spec hp hq ht with ⟨hB, hb⟩ | ⟨hB, hb⟩ | hB | ⟨a, b, k, hB, E⟩
      · simp only [hM, hB, hPa, hPb, Option.bind_some, Int.reduceBEq, Int.reduceBNe, if_true, Bool.false_eq_true, if_false, strEq_refl, known18, show ((bothL p q).length : Int) < 2 by omega, decide_true]
      · simp only [hM, hB, hPa, hPb, Option.bind_some, Int.reduceBEq, Int.reduceBNe, if_true, Bool.false_eq_true, if_false, strEq_refl, known18, hb, decide_false, Bool.not_false]
      · cases hfit : decide (sumC (bothL p q) ≤ 108) <;> simp only [hM, hB, hPa, hPb, Option.bind_some, Int.reduceBEq, Int.reduceBNe, if_true, Bool.false_eq_true, if_false, strEq_refl, known18, Bool.not_true, Bool.not_false]
      · obtain ⟨k1, k2, k3, k4, k5, k6, ⟨k7, k7'⟩, k8, ⟨k9, k10, k11⟩⟩ := E
        have a1 := sumC_le k9.2
        have a2 := sumC_le k10.2
        have l1 := k9.1
        have l2 := k10.1
        have hf2 : fits ((pairsS a).length + (pairsS b).length) 32 := by unfold fits; omega
        have hL2 : pairsS a ++ pairsS b = bothL p q := k6
        have hF2 : m_merge_Fits a b = some (decide (sumC (bothL a b) ≤ 108), 0) := by rw [merge_Fits k1 k2]; unfold fitR; rw [if_pos k5]
        have w1 : IntKind.i64.wrap (sumC (pairsS a) - sumC (pairsS b)) = sumC (pairsS a) - sumC (pairsS b) := wI (by omega) (by omega)
        have w2 : IntKind.i64.wrap (sumC (pairsS b) - sumC (pairsS a)) = sumC (pairsS b) - sumC (pairsS a) := wI (by omega) (by omega)
        by_cases f1 : sumC (bothL p q) ≤ 108
        · simp only [f1, decide_true, hM, hB, hPa, hPb, Option.bind_some, Int.reduceBEq, Int.reduceBNe, if_true, Bool.false_eq_true, if_false, strEq_refl, known18, ref_Valid k1, ref_Valid k2, k3, k4, ref_Pairs k1 k3, ref_Pairs k2 k4, hf2, hL2, same_refl _ hlen, hF2, ref_Sum k9, ref_Sum k10, w1, w2, Bool.not_true, show ¬ sumC (pairsS a) - sumC (pairsS b) > 9 by omega, show ¬ sumC (pairsS b) - sumC (pairsS a) > 9 by omega, decide_false]
          cases pa <;> cases pb <;> rfl
        · simp only [f1, Bool.not_false, hM, hB, hPa, hPb, Option.bind_some, Int.reduceBEq, Int.reduceBNe, if_true, Bool.false_eq_true, if_false, strEq_refl, known18, ref_Valid k1, ref_Valid k2, k3, k4, ref_Pairs k1 k3, ref_Pairs k2 k4, hf2, hL2, same_refl _ hlen, hF2, ref_Sum k9, ref_Sum k10, w1, w2, Bool.not_true, show ¬ sumC (pairsS a) - sumC (pairsS b) > 9 by omega, show ¬ sumC (pairsS b) - sumC (pairsS a) > 9 by omega, decide_false, show sumC (pairsS a) ≥ 36 by omega, show sumC (pairsS b) ≥ 36 by omega, decide_true]
          cases pa <;> cases pb <;> rfl
  · have e : (tgE p q != 0) = true := by simpa using ht
    have hF : fitR p q = (false, tgE p q) := by unfold fitR; rw [if_neg ht]
    simp only [hF, e, if_true]
end Go.Ev.L
