/- Law 17: roots; the stage's theorem. -/
import Derived.Test.YthbmjicmhikpgaaO7
set_option linter.unusedVariables false
set_option linter.unusedSimpArgs false
set_option linter.unusedSectionVars false
set_option maxRecDepth 10000
namespace Go.Ev.L
open Go Go.Ev Go.Ev.M

/-- what the halves of a page have -/
structure Halves (p : List Int) (number : Int) (a b : List Int) (key : ByteArray) : Prop where
  pa : PageOK a
  pb : PageOK b
  va : validB a = true
  vb : validB b = true
  sa : srtB a = true
  sb : srtB b = true
  ka : G a 8 = G p 8
  kb : G b 8 = G p 8
  pairs : pairsS a ++ pairsS b = pairsS p
  na : 1 ≤ (pairsS a).length
  nb : 1 ≤ (pairsS b).length
  even : sumC (pairsS a) - sumC (pairsS b) ≤ 9 ∧ -9 ≤ sumC (pairsS a) - sumC (pairsS b)
  ta : G a 11 = 128 - (sumC (pairsS a) - (pairsS a).length)
  tb : G b 11 = 128 - (sumC (pairsS b) - (pairsS b).length)
  la : lowS a = lowS p
  ha : highS a = key
  lb : lowS b = key
  hb : highS b = highS p
  first : (GP (pairsS b) 0).1 = key
  na10 : G a 10 = number
  nb10 : G b 10 = G p 10
  small : SmallL (pairsS a) ∧ SmallL (pairsS b) ∧ SmallL (pairsS p)
  sum : sumC (pairsS a) ≤ 108 ∧ sumC (pairsS b) ≤ 108

theorem splitR_spec {p : List Int} (hp : PageOK p) (number : Int) : ((splitR p number).2.2.2 ≠ 0 ∧ (splitR p number).1 = zP ∧ (splitR p number).2.1 = zP ∧ (splitR p number).2.2.1 = eB) ∨
    ((splitR p number).2.2.2 = 0 ∧ srtB p = true ∧ 1 ≤ number ∧ number ≤ 511 ∧ Halves p number (splitR p number).1 (splitR p number).2.1 (splitR p number).2.2.1) := by
  cases hs : srtB p with
  | false => left; unfold splitR; rw [if_pos hs]; exact ⟨badS_ne hs, rfl, rfl, rfl⟩
  | true =>
    by_cases c1 : number < 1 ∨ 511 < number
    · left; unfold splitR; rw [if_neg (by rw [hs]; simp), if_pos c1]; exact ⟨by decide, rfl, rfl, rfl⟩
    by_cases c3 : count p < 2
    · left; unfold splitR; rw [if_neg (by rw [hs]; simp), if_neg c1, if_pos c3]; exact ⟨by decide, rfl, rfl, rfl⟩
    obtain ⟨hv, hsr⟩ := srtB_spec hs
    obtain ⟨hl, hlc⟩ := pairsS_len hp hv
    obtain ⟨hsm, hx, hsum⟩ := srt_small hp hs
    have hh := head_spec (valid_head hv)
    have h10 := hp.2.G 10
    obtain ⟨r, e, h1, hr, hd, hg, E1, E2⟩ := split_parts hp hs (number := number) (by omega) (by omega) (by omega)
    cases hc1 : strLt (lowS p) (GP (pairsS p) (placeS (pairsS p))).1 with
    | false => left; unfold splitR; rw [if_neg (by rw [hs]; simp), if_neg c1, if_neg c3, if_pos hc1]; exact ⟨by decide, rfl, rfl, rfl⟩
    | true =>
      by_cases hc2 : highS p ≠ eB ∧ strLt (GP (pairsS p) (placeS (pairsS p))).1 (highS p) = false
      · left; unfold splitR; rw [if_neg (by rw [hs]; simp), if_neg c1, if_neg c3, if_neg (by rw [hc1]; simp), if_pos hc2]; exact ⟨by decide, rfl, rfl, rfl⟩
      · right
        have hS : splitR p number = (keepS (ofS (G p 8 - 1) (lowS p) ((pairsS p)[r]).1 number ((pairsS p).take r)) p, ofS (G p 8 - 1) ((pairsS p)[r]).1 (highS p) (G p 10) ((pairsS p).drop r), ((pairsS p)[r]).1, 0) := by
          unfold splitR; rw [if_neg (by rw [hs]; simp), if_neg c1, if_neg c3, if_neg (by rw [hc1]; simp), if_neg hc2, hg, e, Int.toNat_natCast]
        rw [hg] at hc1 hc2
        rw [hS]
        obtain ⟨z1, z2⟩ := lowS_size hp
        obtain ⟨k1, k2⟩ := srt_key hp hs h1 hr
        have h5 : highS p = eB ∨ strLt ((pairsS p)[r]).1 (highS p) = true := by
          by_cases e : highS p = eB
          · exact .inl e
          · right
            cases h : strLt ((pairsS p)[r]).1 (highS p) with
            | true => rfl
            | false => exact absurd ⟨e, h⟩ hc2
        have hsp := pre_split (pairsS p) r
        have hpr := pre_range hsm r
        have hd0 := sumC_le (hsm.drop r).2
        have hm1 : makeE (G p 8 - 1) (lowS p) ((pairsS p)[r]).1 number = 0 := makeE_zero.2 ⟨by omega, by omega, z1, k2, .inr hc1, by omega, by omega⟩
        have hm2 : makeE (G p 8 - 1) ((pairsS p)[r]).1 (highS p) (G p 10) = 0 := makeE_zero.2 ⟨by omega, by omega, k2, z2, h5, by omega, by omega⟩
        have hpre : pre (pairsS p) r = sumC ((pairsS p).take r) := rfl
        obtain ⟨f1, f2, f3, f4, f5, f6, f7, f8, f9, f10⟩ := ofS_facts hm1 (srt_take hp hs (i := r) (by omega)) (by omega) (hsm.take r)
        obtain ⟨g1, g2, g3, g4, g5, g6, g7, g8, g9, g10⟩ := ofS_facts hm2 (srt_drop hp hs h1 (by omega)) (by omega) (hsm.drop r)
        obtain ⟨q1, q2, q3, q4, q5⟩ := keepS_facts hp f1 f2
        have hlt : ((pairsS p).take r).length = r := by rw [List.length_take]; omega
        have hld : ((pairsS p).drop r).length = (pairsS p).length - r := List.length_drop
        have hdist : -9 ≤ 2 * pre (pairsS p) r - sumC (pairsS p) ∧ 2 * pre (pairsS p) r - sumC (pairsS p) ≤ 9 := by
          unfold distS at hd
          by_cases c : 2 * pre (pairsS p) r - sumC (pairsS p) < 0
          · rw [if_pos c] at hd; omega
          · rw [if_neg c] at hd; omega
        refine ⟨rfl, rfl, by omega, by omega, ?_⟩
        refine { pa := keepS_page hp f1, pb := g1, va := q1, vb := g2, sa := ?_, sb := g10, ka := ?_, kb := by dsimp only; rw [g6]; omega, pairs := ?_, na := ?_, nb := ?_, even := ?_, ta := ?_, tb := ?_, la := ?_, ha := ?_, lb := g4, hb := g5, first := ?_, na10 := ?_, nb10 := g7, small := ?_, sum := ?_ }
        · dsimp only; unfold srtB at f10 ⊢; rw [q1, q2]; rw [f2] at f10; exact f10
        · dsimp only; rw [q5 8 (by omega) (by omega), f6]; omega
        · dsimp only; rw [q2, f3, g3, List.take_append_drop]
        · dsimp only; rw [q2, f3, hlt]; exact h1
        · dsimp only; rw [g3, hld]; omega
        · dsimp only; rw [q2, f3, g3]; omega
        · dsimp only; rw [q5 11 (by omega) (by omega), f9, q2, f3]
        · dsimp only; rw [g9, g3]
        · dsimp only; rw [q3, f4]
        · dsimp only; rw [q4, f5]
        · dsimp only; rw [g3]
          have : GP ((pairsS p).drop r) ((0 : Nat) : Int) = ((pairsS p).drop r)[0]'(by omega) := GP_get (by omega)
          have h0 : GP ((pairsS p).drop r) 0 = ((pairsS p).drop r)[0]'(by omega) := this
          rw [h0, List.getElem_drop]; rfl
        · dsimp only; rw [q5 10 (by omega) (by omega), f7]
        · dsimp only; rw [q2, f3, g3]; exact ⟨hsm.take r, hsm.drop r, hsm⟩
        · dsimp only; rw [q2, f3, g3]; omega

end Go.Ev.L
