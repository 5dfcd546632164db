/- Law 17: roots; the stage's theorem. -/
import Derived.Test.YthbmjicmhikpgaaO7
set_option linter.unusedVariables false
set_option linter.unusedSimpArgs false
set_option linter.unusedSectionVars false
set_option maxRecDepth 10000
namespace Go.Ev.L
open Go Go.Ev Go.Ev.M

theorem roots17 {a b c e : Int} {k : ByteArray} {q : List Int} (h : m_split_Root a b c k = some (q, e)) : m_ticketlinelaw17_roots a b c k q e = some true := by
  unfold m_ticketlinelaw17_roots; rw [h]; simp only [Option.bind_some, beq_refl_page, if_true, beq_self_eq_true]
def rootL (left right : Int) (key : ByteArray) : List Pr := [(eB, (strOf (w8 left), ())), (key, (strOf (w8 right), ()))]
theorem rootL_small (left right : Int) {key : ByteArray} (h : key.size ≤ 60) : SmallL (rootL left right key) := by
  refine ⟨by simp [rootL], fun x hx => ?_⟩
  have e0 : (eB).size = 0 := rfl
  have e1 := (bt_w8 left).1
  have e2 := (bt_w8 right).1
  simp only [rootL, List.mem_cons, List.not_mem_nil, or_false] at hx
  rcases hx with rfl | rfl
  · dsimp only; omega
  · dsimp only; omega
theorem root_E {level left right : Int} {key : ByteArray} (l0 : 1 ≤ level) (l1 : level ≤ 5) (a0 : 1 ≤ left) (a1 : left ≤ 511) (b0 : 1 ≤ right) (b1 : right ≤ 511) (hk : key ≠ eB) (hz : key.size ≤ 24) : ofE level eB eB 0 (rootL left right key) = 0 := by
  have e0 : (eB).size = 0 := rfl
  have hm : makeE level eB eB 0 = 0 := makeE_zero.2 ⟨by omega, by omega, by omega, by omega, .inl rfl, by omega, by omega⟩
  have el : (level == 0) = false := by simp; omega
  have z1 := (bt_w8 left).1
  have z2 := (bt_w8 right).1
  have he : errF (level == 0) (rootL left right key) 0 (rootL left right key).length = 0 := by
    refine err_of (fun k hk' => ?_) ?_
    · have hk2 : k < 2 := hk'
      rw [el]
      rcases (by omega : k = 0 ∨ k = 1) with rfl | rfl
      · show allowedS false 0 (eB, (strOf (w8 left), ())) = 0
        unfold allowedS
        rw [if_neg (by rintro ⟨_, h | h⟩ <;> simp at h), if_neg (by rw [childV_w8 a0 a1]; simp), if_neg (by dsimp only; omega)]
      · show allowedS false 1 (key, (strOf (w8 right), ())) = 0
        unfold allowedS
        rw [if_neg (by rintro ⟨h, _⟩; exact hk h), if_neg (by rw [childV_w8 b0 b1]; simp), if_neg (by dsimp only; omega)]
    · show (strLt eB key && true) = true
      rw [Bool.and_true]
      rcases strLt_tri eB key with h | h | h
      · exact h
      · exact absurd h.symm hk
      · rw [strLt_empty] at h; cases h
  rw [ofE_make hm, he]
  simp only [ne_eq, not_true, if_false]
  rw [if_neg]
  have W1 := W_le (n := (key.size : Int)) (by omega)
  have c1 : costS (eB, (strOf (w8 left), ())) = 2 := by unfold costS; rw [z1]; rfl
  have c2 : costS (key, (strOf (w8 right), ())) ≤ 5 := by
    unfold costS; dsimp only; rw [z2]
    have : W ((8 : Nat) : Int) = 1 := by decide
    omega
  simp only [rootL, sumC, c1]; omega
theorem splitRoots_true (level left right : Int) (key : ByteArray) : m_ticketlinelaw17_SplitRoots level left right key = some true := by
  unfold m_ticketlinelaw17_SplitRoots
  by_cases d : (key.size : Int) > 60
  · simp [d, known17]
  have hR : m_split_Root level left right key = some (if level < 1 ∨ 5 < level ∨ left < 1 ∨ 511 < left ∨ right < 1 ∨ 511 < right ∨ left = right ∨ key = eB then (zP, (2 : Int)) else if 24 < key.size then (zP, 5) else (ofS level eB eB 0 (rootL left right key), 0)) := by
    have pos : ∀ (a b : List Int × Int), (level < 1 ∨ 5 < level ∨ left < 1 ∨ 511 < left ∨ right < 1 ∨ 511 < right ∨ left = right ∨ key = eB) → (if level < 1 ∨ 5 < level ∨ left < 1 ∨ 511 < left ∨ right < 1 ∨ 511 < right ∨ left = right ∨ key = eB then a else b) = a := fun a b h => if_pos h
    unfold m_split_Root
    rw [page_Number, page_Number]
    simp only [Option.bind_some]
    by_cases c1 : level < 1
    · simp only [c1, decide_true, if_true, true_or]
    by_cases c2 : level ≥ 6
    · simp only [c1, c2, decide_true, if_true, decide_false, Bool.false_eq_true, if_false, show 5 < level by omega, true_or, or_true]
    by_cases c3 : left < 1 ∨ 511 < left
    · have e : (left < 1 ∨ 511 < left ∨ right < 1 ∨ 511 < right ∨ left = right ∨ key = eB) := by omega
      rw [pos _ _ (.inr (.inr e)), if_pos c3]
      simp only [c1, c2, decide_false, Bool.false_eq_true, if_false, show ((2 : Int) != 0) = true by decide, if_true]
    by_cases c4 : right < 1 ∨ 511 < right
    · have e : (right < 1 ∨ 511 < right ∨ left = right ∨ key = eB) := by omega
      rw [pos _ _ (.inr (.inr (.inr (.inr e)))), if_neg c3, if_pos c4]
      simp only [c1, c2, decide_false, Bool.false_eq_true, if_false, bne_self_eq_false, show ((2 : Int) != 0) = true by decide, if_true]
    by_cases c5 : left = right
    · rw [pos _ _ (.inr (.inr (.inr (.inr (.inr (.inr (.inl c5))))))), if_neg c3, if_neg c4]
      simp only [c1, c2, decide_false, Bool.false_eq_true, if_false, bne_self_eq_false, c5, beq_self_eq_true, if_true]
    by_cases c6 : key = eB
    · rw [pos _ _ (.inr (.inr (.inr (.inr (.inr (.inr (.inr c6))))))), if_neg c3, if_neg c4]
      have e5 : (left == right) = false := by simpa using c5
      simp only [c1, c2, decide_false, Bool.false_eq_true, if_false, bne_self_eq_false, e5, c6, strEq_refl, if_true]
    have hn : ¬ (level < 1 ∨ 5 < level ∨ left < 1 ∨ 511 < left ∨ right < 1 ∨ 511 < right ∨ left = right ∨ key = eB) := by
      rintro (h | h | h | h | h | h | h | h)
      · omega
      · omega
      · omega
      · omega
      · omega
      · omega
      · exact c5 h
      · exact c6 h
    have e5 : (left == right) = false := by simpa using c5
    rw [if_neg hn, if_neg c3, if_neg c4]
    have P := page_Of level eB eB 0 (rootL_small left right (key := key) (by omega))
    by_cases c7 : (key.size : Int) > 24
    · simp only [c1, c2, decide_false, Bool.false_eq_true, if_false, bne_self_eq_false, e5, strEq_false c6, c7, decide_true, if_true, show 24 < key.size by omega]
    · rw [root_E (by omega) (by omega) (by omega) (by omega) (by omega) (by omega) c6 (by omega), if_pos rfl] at P
      have P : m_page_Of level (⟨#[]⟩ : ByteArray) (⟨#[]⟩ : ByteArray) 0 [((⟨#[]⟩ : ByteArray), (strOf (w8 left), ())), (key, (strOf (w8 right), ()))] = some (ofS level eB eB 0 (rootL left right key), 0) := P
      simp only [c1, c2, decide_false, Bool.false_eq_true, if_false, bne_self_eq_false, e5, strEq_false c6, c7, show ¬ 24 < key.size by omega, P, Option.bind_some]
  dsimp only
  simp only [d, decide_false, Bool.false_eq_true, if_false, known17, Option.bind_some]
  have bad : ∀ (_ : level < 1 ∨ 5 < level ∨ left < 1 ∨ 511 < left ∨ right < 1 ∨ 511 < right ∨ left = right ∨ key = eB), m_ticketlinelaw17_roots level left right key (List.replicate 128 0) 2 = some true := fun h => roots17 (by rw [hR, if_pos h])
  by_cases c1 : level < 1
  · simp only [c1, decide_true, if_true, bad (.inl c1), Option.bind_some]
  by_cases c2 : level > 5
  · simp only [c1, c2, decide_true, if_true, decide_false, Bool.false_eq_true, if_false, bad (.inr (.inl c2)), Option.bind_some]
  by_cases c3 : left < 1
  · simp only [c1, c2, c3, decide_true, if_true, decide_false, Bool.false_eq_true, if_false, bad (.inr (.inr (.inl c3))), Option.bind_some]
  by_cases c4 : left > 511
  · simp only [c1, c2, c3, c4, decide_true, if_true, decide_false, Bool.false_eq_true, if_false, bad (.inr (.inr (.inr (.inl c4)))), Option.bind_some]
  by_cases c5 : right < 1
  · simp only [c1, c2, c3, c4, c5, decide_true, if_true, decide_false, Bool.false_eq_true, if_false, bad (.inr (.inr (.inr (.inr (.inl c5))))), Option.bind_some]
  by_cases c6 : right > 511
  · simp only [c1, c2, c3, c4, c5, c6, decide_true, if_true, decide_false, Bool.false_eq_true, if_false, bad (.inr (.inr (.inr (.inr (.inr (.inl c6)))))), Option.bind_some]
  by_cases c7 : left = right
  · have e7 : (left == right) = true := by simpa using c7
    simp only [c1, c2, c3, c4, c5, c6, e7, if_true, decide_false, Bool.false_eq_true, if_false, bad (.inr (.inr (.inr (.inr (.inr (.inr (.inl c7))))))), Option.bind_some]
  have e7 : (left == right) = false := by simpa using c7
  by_cases c8 : key = eB
  · simp only [c1, c2, c3, c4, c5, c6, e7, strEq_iff.2 c8, if_true, decide_false, Bool.false_eq_true, if_false, bad (.inr (.inr (.inr (.inr (.inr (.inr (.inr c8))))))), Option.bind_some]
  have hn : ¬ (level < 1 ∨ 5 < level ∨ left < 1 ∨ 511 < left ∨ right < 1 ∨ 511 < right ∨ left = right ∨ key = eB) := by
    rintro (h | h | h | h | h | h | h | h)
    · omega
    · omega
    · omega
    · omega
    · omega
    · omega
    · exact c7 h
    · exact c8 h
  rw [if_neg hn] at hR
  by_cases c9 : (key.size : Int) > 24
  · rw [if_pos (by omega)] at hR
    simp only [c1, c2, c3, c4, c5, c6, e7, strEq_false c8, c9, decide_true, if_true, decide_false, Bool.false_eq_true, if_false, roots17 hR, Option.bind_some]
  · rw [if_neg (by omega)] at hR
    have P := ref16_Of level eB eB 0 (rootL_small left right (key := key) (by omega))
    rw [root_E (by omega) (by omega) (by omega) (by omega) (by omega) (by omega) c8 (by omega), if_pos rfl] at P
    have P : m_ticketlineref16_Of level (⟨#[]⟩ : ByteArray) (⟨#[]⟩ : ByteArray) 0 [((⟨#[]⟩ : ByteArray), (strOf (w8 left), ())), (key, (strOf (w8 right), ()))] = some (ofS level eB eB 0 (rootL left right key), 0) := P
    simp only [c1, c2, c3, c4, c5, c6, e7, strEq_false c8, c9, decide_false, Bool.false_eq_true, if_false, ref16_Number (n := left) (by omega) (by omega), ref16_Number (n := right) (by omega) (by omega), P, Option.bind_some, roots17 hR, if_true]

/-- what the halves of a page have -/
structure Halves (p : List Int) (number : Int) (a b : List Int) (key : ByteArray) : Prop where
  pa : PageOK a
  pb : PageOK b
  va : validB a = true
  vb : validB b = true
  sa : srtB a = true
  sb : srtB b = true
  ka : G a 8 = G p 8
  kb : G b 8 = G p 8
  pairs : pairsS a ++ pairsS b = pairsS p
  na : 1 ≤ (pairsS a).length
  nb : 1 ≤ (pairsS b).length
  even : sumC (pairsS a) - sumC (pairsS b) ≤ 9 ∧ -9 ≤ sumC (pairsS a) - sumC (pairsS b)
  ta : G a 11 = 128 - (sumC (pairsS a) - (pairsS a).length)
  tb : G b 11 = 128 - (sumC (pairsS b) - (pairsS b).length)
  la : lowS a = lowS p
  ha : highS a = key
  lb : lowS b = key
  hb : highS b = highS p
  first : (GP (pairsS b) 0).1 = key
  na10 : G a 10 = number
  nb10 : G b 10 = G p 10
  small : SmallL (pairsS a) ∧ SmallL (pairsS b) ∧ SmallL (pairsS p)
  sum : sumC (pairsS a) ≤ 108 ∧ sumC (pairsS b) ≤ 108

theorem splitR_spec {p : List Int} (hp : PageOK p) (number : Int) : ((splitR p number).2.2.2 ≠ 0 ∧ (splitR p number).1 = zP ∧ (splitR p number).2.1 = zP ∧ (splitR p number).2.2.1 = eB) ∨
    ((splitR p number).2.2.2 = 0 ∧ srtB p = true ∧ 1 ≤ number ∧ number ≤ 511 ∧ Halves p number (splitR p number).1 (splitR p number).2.1 (splitR p number).2.2.1) := by
  cases hs : srtB p with
  | false => left; unfold splitR; rw [if_pos hs]; exact ⟨badS_ne hs, rfl, rfl, rfl⟩
  | true =>
    by_cases c1 : number < 1 ∨ 511 < number
    · left; unfold splitR; rw [if_neg (by rw [hs]; simp), if_pos c1]; exact ⟨by decide, rfl, rfl, rfl⟩
    by_cases c3 : count p < 2
    · left; unfold splitR; rw [if_neg (by rw [hs]; simp), if_neg c1, if_pos c3]; exact ⟨by decide, rfl, rfl, rfl⟩
    obtain ⟨hv, hsr⟩ := srtB_spec hs
    obtain ⟨hl, hlc⟩ := pairsS_len hp hv
    obtain ⟨hsm, hx, hsum⟩ := srt_small hp hs
    have hh := head_spec (valid_head hv)
    have h10 := hp.2.G 10
    obtain ⟨r, e, h1, hr, hd, hg, E1, E2⟩ := split_parts hp hs (number := number) (by omega) (by omega) (by omega)
    cases hc1 : strLt (lowS p) (GP (pairsS p) (placeS (pairsS p))).1 with
    | false => left; unfold splitR; rw [if_neg (by rw [hs]; simp), if_neg c1, if_neg c3, if_pos hc1]; exact ⟨by decide, rfl, rfl, rfl⟩
    | true =>
      by_cases hc2 : highS p ≠ eB ∧ strLt (GP (pairsS p) (placeS (pairsS p))).1 (highS p) = false
      · left; unfold splitR; rw [if_neg (by rw [hs]; simp), if_neg c1, if_neg c3, if_neg (by rw [hc1]; simp), if_pos hc2]; exact ⟨by decide, rfl, rfl, rfl⟩
      · right
        have hS : splitR p number = (keepS (ofS (G p 8 - 1) (lowS p) ((pairsS p)[r]).1 number ((pairsS p).take r)) p, ofS (G p 8 - 1) ((pairsS p)[r]).1 (highS p) (G p 10) ((pairsS p).drop r), ((pairsS p)[r]).1, 0) := by
          unfold splitR; rw [if_neg (by rw [hs]; simp), if_neg c1, if_neg c3, if_neg (by rw [hc1]; simp), if_neg hc2, hg, e, Int.toNat_natCast]
        rw [hg] at hc1 hc2
        rw [hS]
        obtain ⟨z1, z2⟩ := lowS_size hp
        obtain ⟨k1, k2⟩ := srt_key hp hs h1 hr
        have h5 : highS p = eB ∨ strLt ((pairsS p)[r]).1 (highS p) = true := by
          by_cases e : highS p = eB
          · exact .inl e
          · right
            cases h : strLt ((pairsS p)[r]).1 (highS p) with
            | true => rfl
            | false => exact absurd ⟨e, h⟩ hc2
        have hsp := pre_split (pairsS p) r
        have hpr := pre_range hsm r
        have hd0 := sumC_le (hsm.drop r).2
        have hm1 : makeE (G p 8 - 1) (lowS p) ((pairsS p)[r]).1 number = 0 := makeE_zero.2 ⟨by omega, by omega, z1, k2, .inr hc1, by omega, by omega⟩
        have hm2 : makeE (G p 8 - 1) ((pairsS p)[r]).1 (highS p) (G p 10) = 0 := makeE_zero.2 ⟨by omega, by omega, k2, z2, h5, by omega, by omega⟩
        have hpre : pre (pairsS p) r = sumC ((pairsS p).take r) := rfl
        obtain ⟨f1, f2, f3, f4, f5, f6, f7, f8, f9, f10⟩ := ofS_facts hm1 (srt_take hp hs (i := r) (by omega)) (by omega) (hsm.take r)
        obtain ⟨g1, g2, g3, g4, g5, g6, g7, g8, g9, g10⟩ := ofS_facts hm2 (srt_drop hp hs h1 (by omega)) (by omega) (hsm.drop r)
        obtain ⟨q1, q2, q3, q4, q5⟩ := keepS_facts hp f1 f2
        have hlt : ((pairsS p).take r).length = r := by rw [List.length_take]; omega
        have hld : ((pairsS p).drop r).length = (pairsS p).length - r := List.length_drop
        have hdist : -9 ≤ 2 * pre (pairsS p) r - sumC (pairsS p) ∧ 2 * pre (pairsS p) r - sumC (pairsS p) ≤ 9 := by
          unfold distS at hd
          by_cases c : 2 * pre (pairsS p) r - sumC (pairsS p) < 0
          · rw [if_pos c] at hd; omega
          · rw [if_neg c] at hd; omega
        refine ⟨rfl, rfl, by omega, by omega, ?_⟩
        refine { pa := keepS_page hp f1, pb := g1, va := q1, vb := g2, sa := ?_, sb := g10, ka := ?_, kb := by dsimp only; rw [g6]; omega, pairs := ?_, na := ?_, nb := ?_, even := ?_, ta := ?_, tb := ?_, la := ?_, ha := ?_, lb := g4, hb := g5, first := ?_, na10 := ?_, nb10 := g7, small := ?_, sum := ?_ }
        · dsimp only; unfold srtB at f10 ⊢; rw [q1, q2]; rw [f2] at f10; exact f10
        · dsimp only; rw [q5 8 (by omega) (by omega), f6]; omega
        · dsimp only; rw [q2, f3, g3, List.take_append_drop]
        · dsimp only; rw [q2, f3, hlt]; exact h1
        · dsimp only; rw [g3, hld]; omega
        · dsimp only; rw [q2, f3, g3]; omega
        · dsimp only; rw [q5 11 (by omega) (by omega), f9, q2, f3]
        · dsimp only; rw [g9, g3]
        · dsimp only; rw [q3, f4]
        · dsimp only; rw [q4, f5]
        · dsimp only; rw [g3]
          have : GP ((pairsS p).drop r) ((0 : Nat) : Int) = ((pairsS p).drop r)[0]'(by omega) := GP_get (by omega)
          have h0 : GP ((pairsS p).drop r) 0 = ((pairsS p).drop r)[0]'(by omega) := this
          rw [h0, List.getElem_drop]; rfl
        · dsimp only; rw [q5 10 (by omega) (by omega), f7]
        · dsimp only; rw [q2, f3, g3]; exact ⟨hsm.take r, hsm.drop r, hsm⟩
        · dsimp only; rw [q2, f3, g3]; omega

theorem splitHolds_true {x : Pln} (h : PlnOK x) (n : Int) : m_ticketlinelaw17_SplitHolds x n = some true := by
  obtain ⟨p, b, h1, h2, h3, h4⟩ := plan_used h
  unfold m_ticketlinelaw17_SplitHolds
  rw [h4]
  simp only [Option.bind_some, known17]
  by_cases c : (b && validB p) = true
  · have hv : validB p = true := by simp only [Bool.and_eq_true] at c; exact c.2
    simp only [c, Bool.not_true, Bool.false_eq_true, if_false, split_Split h2, Option.bind_some]
    rcases splitR_spec h2 n with ⟨e1, e2, e3, e4⟩ | ⟨e1, e2, e3, e4, H⟩
    · have e1' : ((splitR p n).2.2.2 != 0) = true := by simpa using e1
      simp only [e1', if_true, e2, e3, e4, beq_refl_page, strEq_refl]
    · have ha := H.pa
      have hb := H.pb
      have ba : badS (splitR p n).1 = 0 := by have := badS_zero (p := (splitR p n).1); rw [H.sa] at this; simpa using this
      have bb : badS (splitR p n).2.1 = 0 := by have := badS_zero (p := (splitR p n).2.1); rw [H.sb] at this; simpa using this
      obtain ⟨s1, s2, s3⟩ := H.small
      obtain ⟨t1, t2⟩ := H.sum
      obtain ⟨v1, v2⟩ := H.even
      have na := H.na
      have nb := H.nb
      have u1 := sumC_le s1.2
      have u2 := sumC_le s2.2
      have hf1 : fits (pairsS (splitR p n).1).length 32 := by have := s1.1; unfold fits; omega
      have hf2 : fits ((pairsS (splitR p n).1).length + (pairsS (splitR p n).2.1).length) 32 := by have := s1.1; have := s2.1; unfold fits; omega
      have w1 : IntKind.i64.wrap (sumC (pairsS (splitR p n).1) - sumC (pairsS (splitR p n).2.1)) = sumC (pairsS (splitR p n).1) - sumC (pairsS (splitR p n).2.1) := wI (by omega) (by omega)
      have hta := H.ta
      have htb := H.tb
      have l1 := s1.1
      have l2 := s2.1
      have w2 : IntKind.i64.wrap (IntKind.i64.wrap (IntKind.i64.wrap (G (splitR p n).1 11) - 20) - ((pairsS (splitR p n).1).length : Int)) = 108 - sumC (pairsS (splitR p n).1) := by
        rw [wI (x := G (splitR p n).1 11) (by omega) (by omega), wI (x := G (splitR p n).1 11 - 20) (by omega) (by omega), wI (by omega) (by omega)]; omega
      have w3 : IntKind.i64.wrap (IntKind.i64.wrap (IntKind.i64.wrap (G (splitR p n).2.1 11) - 20) - ((pairsS (splitR p n).2.1).length : Int)) = 108 - sumC (pairsS (splitR p n).2.1) := by
        rw [wI (x := G (splitR p n).2.1 11) (by omega) (by omega), wI (x := G (splitR p n).2.1 11 - 20) (by omega) (by omega), wI (by omega) (by omega)]; omega
      have w4 : IntKind.i64.wrap (108 - sumC (pairsS (splitR p n).1)) = 108 - sumC (pairsS (splitR p n).1) := wI (by omega) (by omega)
      have w5 : IntKind.i64.wrap (108 - sumC (pairsS (splitR p n).2.1)) = 108 - sumC (pairsS (splitR p n).2.1) := wI (by omega) (by omega)
      have w6 : IntKind.i64.wrap (G (splitR p n).1 10) = n := by rw [H.na10, wI (by omega) (by omega)]
      have z1 : (((pairsS (splitR p n).1).length : Int) == 0) = false := beq_eq_false_iff_ne.2 (by omega)
      have z2 : (((pairsS (splitR p n).2.1).length : Int) == 0) = false := beq_eq_false_iff_ne.2 (by omega)
      simp only [e1, bne_self_eq_false, Bool.false_eq_true, if_false, ref_Valid ha, ref_Valid hb, H.va, H.vb, Option.bind_some, Bool.not_true, ref15_Bad ha, ref15_Bad hb, ba, bb, rd_G, H.ka, H.kb, ref_Pairs ha H.va, ref_Pairs hb H.vb, ref_Pairs h2 hv, ref_Fences ha, ref_Fences hb, ref_Fences h2, ref_Sum s1, ref_Sum s2, z1, z2, hf1, hf2, if_true, H.pairs, same_refl _ s3.1, w1,
        show ¬ sumC (pairsS (splitR p n).1) - sumC (pairsS (splitR p n).2.1) > 9 by omega, show ¬ sumC (pairsS (splitR p n).1) - sumC (pairsS (splitR p n).2.1) < -9 by omega, decide_false, w2, w3, w4, w5, H.la, H.ha, H.lb, H.hb, strEq_refl, show (0 : Int) < ((pairsS (splitR p n).2.1).length : Int) by omega, rd_GP, H.first, w6, H.nb10, beq_self_eq_true]
  · have c' : (b && validB p) = false := by simpa using c
    simp only [c', Bool.not_false, if_true]
end Go.Ev.L
