/- Law 18: the halves of a page merged again. -/
import Derived.Test.YtakncomdmgbjaaaT6
set_option linter.unusedVariables false
set_option linter.unusedSimpArgs false
set_option linter.unusedSectionVars false
set_option maxRecDepth 10000
namespace Go.Ev.L
open Go Go.Ev Go.Ev.M

theorem keep_keep {X Y p : List Int} (hp : PageOK p) : keepS Y (keepS X p) = keepS Y p := by
  have hw : (win p 0 8).length = 8 := win_len (by omega) (by omega) (by rw [hp.1]; omega)
  have e : win (keepS X p) 0 8 = win p 0 8 := by
    unfold keepS
    generalize win p 0 8 = w at hw
    unfold splice
    show List.take 8 (List.drop 0 (List.take 0 X ++ w ++ X.drop (0 + w.length))) = w
    rw [List.drop_zero, List.take_zero, List.nil_append, List.take_append_of_le_length (by omega), List.take_of_length_le (by omega)]
  show splice Y 0 (win (keepS X p) 0 8) = splice Y 0 (win p 0 8)
  rw [e]
theorem splitR_keep {p : List Int} {n : Int} (h : (splitR p n).2.2.2 = 0) : (∃ X, (splitR p n).1 = keepS X p) ∧ strLt (lowS p) (splitR p n).2.2.1 = true ∧ ¬ (highS p ≠ eB ∧ strLt (splitR p n).2.2.1 (highS p) = false) := by
  unfold splitR at h ⊢
  by_cases c1 : srtB p = false
  · rw [if_pos c1] at h; exact absurd h (badS_ne c1)
  rw [if_neg c1] at h ⊢
  by_cases c2 : n < 1 ∨ 511 < n
  · rw [if_pos c2] at h; exact absurd h (by decide)
  rw [if_neg c2] at h ⊢
  by_cases c3 : count p < 2
  · rw [if_pos c3] at h; exact absurd h (by decide)
  rw [if_neg c3] at h ⊢
  by_cases c4 : strLt (lowS p) (GP (pairsS p) (placeS (pairsS p))).1 = false
  · rw [if_pos c4] at h; exact absurd h (by decide)
  rw [if_neg c4] at h ⊢
  by_cases c5 : highS p ≠ eB ∧ strLt (GP (pairsS p) (placeS (pairsS p))).1 (highS p) = false
  · rw [if_pos c5] at h; exact absurd h (by decide)
  rw [if_neg c5] at h ⊢
  refine ⟨⟨_, rfl⟩, ?_, c5⟩
  dsimp only
  cases h : strLt (lowS p) (GP (pairsS p) (placeS (pairsS p))).1 with
  | true => rfl
  | false => exact absurd h c4

theorem mergeSplits_true {x : Pln} (h : PlnOK x) (n : Int) : m_ticketlinelaw18_MergeSplits x n = some true := by
  obtain ⟨p, u, h1, hp, h3, h4⟩ := plan_used h
  unfold m_ticketlinelaw18_MergeSplits
  rw [h4]
  simp only [Option.bind_some, known18]
  cases hc : (u && validB p) with
  | false => simp only [Bool.not_false, if_true]
  | true =>
  simp only [Bool.not_true, Bool.false_eq_true, if_false]
  by_cases c1 : n < 1
  · simp only [c1, decide_true, if_true]
  by_cases c2 : n > 511
  · simp only [c1, c2, decide_true, if_true, decide_false, Bool.false_eq_true, if_false]
  simp only [c1, c2, decide_false, Bool.false_eq_true, if_false, ref15_Bad hp, Option.bind_some]
  cases hs : srtB p with
  | false => simp only [badS_bne hs, if_true]
  | true =>
    have hb : badS p = 0 := by have := badS_zero (p := p); rw [hs] at this; simpa using this
    simp only [hb, bne_self_eq_false, Bool.false_eq_true, if_false, ref17_Split hp, Option.bind_some]
    rcases splitR_spec hp n with ⟨e1, _⟩ | ⟨e1, e2, e3, e4, H⟩
    · have e1' : ((splitR p n).2.2.2 != 0) = true := by simpa using e1
      simp only [e1', if_true]
    · obtain ⟨⟨X, hX⟩, k1, k2⟩ := splitR_keep e1
      have hsum := (srt_small hp hs).2.2
      have hsr := (srtB_spec hs).2
      have hkey : (splitR p n).2.2.1 ≠ eB := fun e => by rw [e, strLt_empty] at k1; cases k1
      have hlh : ¬ (highS p ≠ eB ∧ strLt (lowS p) (highS p) = false) := fun ⟨x1, x2⟩ => by
        cases hq : strLt (splitR p n).2.2.1 (highS p) with
        | true => rw [strLt_trans k1 hq] at x2; cases x2
        | false => exact k2 ⟨x1, hq⟩
      have hL : bothL (splitR p n).1 (splitR p n).2.1 = pairsS p := H.pairs
      have na := H.na
      have nb := H.nb
      have hlen : (pairsS p).length = (pairsS (splitR p n).1).length + (pairsS (splitR p n).2.1).length := by rw [← H.pairs, List.length_append]
      have ht : tgE (splitR p n).1 (splitR p n).2.1 = 0 := by
        refine tgE_spec.2 ⟨H.sa, H.sb, H.ka.trans H.kb.symm, by rw [H.ha]; exact hkey, H.ha.trans H.lb.symm, ?_⟩
        have hlt := srt_lt hsr ((pairsS (splitR p n).1).length - 1) (pairsS (splitR p n).1).length (by omega) (by omega)
        have g1 : GP (pairsS (splitR p n).1) (((pairsS (splitR p n).1).length : Int) - 1) = (pairsS p)[(pairsS (splitR p n).1).length - 1]'(by omega) := by
          rw [show ((pairsS (splitR p n).1).length : Int) - 1 = (((pairsS (splitR p n).1).length - 1 : Nat) : Int) by omega, GP_get (by omega)]
          have : (pairsS (splitR p n).1 ++ pairsS (splitR p n).2.1)[(pairsS (splitR p n).1).length - 1]'(by rw [List.length_append]; omega) = (pairsS (splitR p n).1)[(pairsS (splitR p n).1).length - 1]'(by omega) := List.getElem_append_left (by omega)
          rw [← this]
          congr 1
        have g2 : GP (pairsS (splitR p n).2.1) 0 = (pairsS p)[(pairsS (splitR p n).1).length]'(by omega) := by
          have e0 : GP (pairsS (splitR p n).2.1) 0 = (pairsS (splitR p n).2.1)[0]'(by omega) := GP_get (l := pairsS (splitR p n).2.1) (i := 0) (by omega)
          rw [e0]
          have : (pairsS (splitR p n).1 ++ pairsS (splitR p n).2.1)[(pairsS (splitR p n).1).length]'(by rw [List.length_append]; omega) = (pairsS (splitR p n).2.1)[0]'(by omega) := by
            rw [List.getElem_append_right (Nat.le_refl _)]; congr 1; omega
          rw [← this]
          congr 1
        unfold meetB
        rw [g1, g2, hlt, Bool.or_true]
      have hF : fitR (splitR p n).1 (splitR p n).2.1 = (true, 0) := by unfold fitR; rw [if_pos ht, hL, decide_eq_true hsum]
      have eM : mergeE (splitR p n).1 (splitR p n).2.1 = 0 := by
        unfold mergeE
        rw [if_neg (by simpa using ht), hL, if_neg (by omega), H.la, H.hb, if_neg hlh]
      have hM : m_merge_Merge (splitR p n).1 (splitR p n).2.1 = some (keepS (ofS (G p 8 - 1) (lowS p) (highS p) (G p 10) (pairsS p)) p, 0) := by
        rw [merge_Merge H.pa H.pb]
        unfold mergeR
        rw [if_pos eM, hL, H.la, H.hb, H.ka, H.nb10]
        congr 2
        rw [hX]; exact keep_keep hp
      simp only [e1, bne_self_eq_false, Bool.false_eq_true, if_false, fits18 H.pa H.pb hF, Option.bind_some, if_true, ref16_Compact hp hs hlh, merges18 hM]
end Go.Ev.L
