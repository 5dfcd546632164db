/- Splitting: what the program and the reference compute; law 17. -/
import Derived.Test.YthbmjicmhikpgaaO6
import Derived.KernelRfl
set_option linter.unusedVariables false
set_option linter.unusedSimpArgs false
set_option linter.unusedSectionVars false
set_option maxRecDepth 10000
namespace Go.Ev.L
open Go Go.Ev Go.Ev.M

theorem known17 : m_ticketlinelaw17_known = some true := by kernel_rfl
abbrev zP : List Int := List.replicate 128 0

def keepS (q p : List Int) : List Int := splice q 0 (win p 0 8)
section
variable {p q : List Int} (hp : PageOK p) (hq : PageOK q)
include hp hq
theorem G_keepS (j : Int) (h0 : 0 ≤ j) : G (keepS q p) j = if j < 8 then G p j else G q j := by
  have hw : (win p 0 8).length = 8 := win_len (by omega) (by omega) (by rw [hp.1]; omega)
  unfold keepS
  rw [G_splice (by omega) (by rw [hw, hq.1]; decide) j h0, hw]
  by_cases c : j < 8
  · rw [if_pos (by omega), if_pos c, G_win (by omega) _ (by omega) (by omega)]; congr 1; omega
  · rw [if_neg (by omega), if_neg c]
theorem keepS_page : PageOK (keepS q p) := splice_page hq (by omega) (by rw [win_len (by omega) (by omega) (by rw [hp.1]; omega)]; decide) (hp.2.win _ _)
theorem keep_l0 (z : List Int) : ∀ (m n N i : Nat) (r : List Int), i + m = 8 → m < n → PageOK r → (∀ j : Nat, j < 128 → G r j = if j < i then G p j else G q j) → m_ticketlineref17_Keep_l0 N n i r p z = some (keepS q p) := by
  intro m
  induction m with
  | zero =>
    intro n N i r hm hn hr hg
    obtain ⟨n, rfl⟩ : ∃ q, n = q + 1 := ⟨n - 1, by omega⟩
    simp only [m_ticketlineref17_Keep_l0, m_ticketlineref17_Keep_l0_b, show ¬ (i : Int) < 8 by omega, decide_false, Bool.false_eq_true, if_false]
    congr 1
    refine list_ext_G (by rw [hr.1, (keepS_page hp hq).1]) fun j hj => ?_
    rw [hg j (by rw [← hr.1]; exact hj), G_keepS hp hq _ (by omega)]
    by_cases c : j < 8
    · rw [if_pos (by omega), if_pos (by omega)]
    · rw [if_neg (by omega), if_neg (by omega)]
  | succ m ih =>
    intro n N i r hm hn hr hg
    obtain ⟨n, rfl⟩ : ∃ q, n = q + 1 := ⟨n - 1, by omega⟩
    have w2 : IntKind.i64.wrap ((i : Int) + 1) = ((i + 1 : Nat) : Int) := by rw [wI (by omega) (by omega)]; omega
    have hgi := hp.2.G i
    have := ih n N (i + 1) (r.set i (G p i)) (by omega) (by omega) (hr.set i hgi.1 hgi.2) fun j hj => by
      rw [G_set (by rw [hr.1]; omega) _ (by omega), hg j hj]
      by_cases e : j = i
      · subst e; rw [if_pos rfl, if_pos (by omega)]
      · rw [if_neg (by omega)]
        by_cases c : j < i
        · rw [if_pos c, if_pos (by omega)]
        · rw [if_neg c, if_neg (by omega)]
    simp only [m_ticketlineref17_Keep_l0, m_ticketlineref17_Keep_l0_b, show (i : Int) < 8 by omega, show (i : Int) < 128 by omega, decide_true, if_true, Int.natCast_nonneg, w2, rd_G, Int.toNat_natCast, this]
theorem ref17_Keep : m_ticketlineref17_Keep q p = some (keepS q p) := by
  unfold m_ticketlineref17_Keep m_ticketlineref17_Keep_a
  exact keep_l0 hp hq _ 8 FUEL FUEL 0 q (by omega) (by have := FUEL_big; omega) hq fun j hj => by rw [if_neg (by omega)]
theorem keepS_agree (hv : validB q = true) : Agree q (keepS q p) := by
  have hh := head_spec (valid_head hv)
  refine ⟨fun j h1 h2 => by rw [G_keepS hp hq j (by omega), if_neg (by omega)], fun i hi j h1 h2 => ?_⟩
  have := (valid_good hq hv hi).sized.low
  have h9 := hq.2.G 9
  rw [G_keepS hp hq j (by omega), if_neg (by omega)]
theorem keepS_facts (hv : validB q = true) : validB (keepS q p) = true ∧ pairsS (keepS q p) = pairsS q ∧ lowS (keepS q p) = lowS q ∧ highS (keepS q p) = highS q ∧ ∀ j, 8 ≤ j → j < 128 → G (keepS q p) j = G q j := by
  have hA := keepS_agree hp hq hv
  have hk := keepS_page hp hq
  refine ⟨agree_valid hq hk hv hA, agree_pairs hq hk hv hA, ?_, ?_, fun j h1 h2 => by rw [G_keepS hp hq j (by omega), if_neg (by omega)]⟩
  · unfold lowS; rw [agree_fence hq hk hA (by omega) (by omega)]
  · unfold highS; rw [agree_fence hq hk hA (by omega) (by omega)]
end

theorem srt_of : ∀ {l : List Pr}, (∀ (j k : Nat) (hj : j < k) (hk : k < l.length), strLt (l[j]'(by omega)).1 (l[k]).1 = true) → srt l = true := by
  intro l
  induction l with
  | nil => intro _; rfl
  | cons x r ih =>
    intro h
    cases r with
    | nil => rfl
    | cons y r =>
      rw [srt_cons2, Bool.and_eq_true]
      exact ⟨h 0 1 (by omega) (by simp), ih fun j k hj hk => by
        have := h (j + 1) (k + 1) (by omega) (by simpa using hk)
        simpa using this⟩
section
variable {p : List Int} (hp : PageOK p) (hs : srtB p = true)
include hp hs
theorem srt_small : SmallL (pairsS p) ∧ (∀ x, x ∈ pairsS p → x.1.size ≤ 24 ∧ x.2.1.size ≤ 40 ∧ costS x ≤ 9) ∧ sumC (pairsS p) ≤ 108 := by
  obtain ⟨hv, hsr⟩ := srtB_spec hs
  obtain ⟨hl, hlc⟩ := pairsS_len hp hv
  have hh := head_spec (valid_head hv)
  have hx : ∀ x, x ∈ pairsS p → x.1.size ≤ 24 ∧ x.2.1.size ≤ 40 ∧ costS x ≤ 9 := by
    intro x hx
    obtain ⟨i, hi, rfl⟩ := List.getElem_of_mem hx
    have hg := GP_pairs (p := p) (i := (i : Int)) (by omega) (by omega)
    rw [GP_get hi] at hg
    have ha := valid_allowed hp hv (i := i) (by omega)
    rw [← hg] at ha
    obtain ⟨a1, a2, a3, a4⟩ := allowed_spec ha
    have W1 := W_le (n := ((pairsS p)[i].1.size : Int)) (by omega)
    have W2 := W_le (n := ((pairsS p)[i].2.1.size : Int)) (by omega)
    refine ⟨a3, a4, ?_⟩
    unfold costS; omega
  refine ⟨⟨hl, fun x hx' => by have := hx x hx'; omega⟩, hx, ?_⟩
  have := load_gap hp hv
  omega
theorem srt_take {i : Nat} (hi : i ≤ (pairsS p).length) : errF (G p 8 - 1 == 0) ((pairsS p).take i) 0 ((pairsS p).take i).length = 0 := by
  obtain ⟨hv, hsr⟩ := srtB_spec hs
  obtain ⟨hl, hlc⟩ := pairsS_len hp hv
  have e : (G p 8 - 1 == 0) = (G p 8 == 1) := by rw [Bool.eq_iff_iff]; simp; omega
  refine err_of (fun k hk => ?_) ?_
  · rw [List.length_take] at hk
    have hg := GP_pairs (p := p) (i := (k : Int)) (by omega) (by omega)
    rw [GP_get (by omega)] at hg
    rw [List.getElem_take, e, hg]
    exact valid_allowed hp hv (i := k) (by omega)
  · exact srt_of fun j k hj hk => by
      rw [List.length_take] at hk
      rw [List.getElem_take, List.getElem_take]
      exact srt_lt hsr j k hj (by omega)
theorem srt_drop {i : Nat} (h1 : 1 ≤ i) (hi : i ≤ (pairsS p).length) : errF (G p 8 - 1 == 0) ((pairsS p).drop i) 0 ((pairsS p).drop i).length = 0 := by
  obtain ⟨hv, hsr⟩ := srtB_spec hs
  obtain ⟨hl, hlc⟩ := pairsS_len hp hv
  have e : (G p 8 - 1 == 0) = (G p 8 == 1) := by rw [Bool.eq_iff_iff]; simp; omega
  refine err_of (fun k hk => ?_) ?_
  · rw [List.length_drop] at hk
    have hg := GP_pairs (p := p) (i := ((i + k : Nat) : Int)) (by omega) (by omega)
    rw [GP_get (by omega)] at hg
    rw [List.getElem_drop, e, hg]
    have ha := valid_allowed hp hv (i := i + k) (by omega)
    obtain ⟨a1, a2, a3, a4⟩ := allowed_spec ha
    unfold allowedS
    rw [if_neg (fun h => a1 ⟨h.1, .inr (by omega)⟩), if_neg (fun h => by rw [a2 h.1] at h; cases h.2), if_neg (by omega)]
  · exact srt_of fun j k hj hk => by
      rw [List.length_drop] at hk
      rw [List.getElem_drop, List.getElem_drop]
      exact srt_lt hsr (i + j) (i + k) (by omega) (by omega)
theorem srt_key {i : Nat} (h1 : 1 ≤ i) (hi : i < (pairsS p).length) : ((pairsS p)[i]).1 ≠ eB ∧ ((pairsS p)[i]).1.size ≤ 24 := by
  obtain ⟨hv, hsr⟩ := srtB_spec hs
  refine ⟨fun e => ?_, ((srt_small hp hs).2.1 _ (List.getElem_mem hi)).1⟩
  have := srt_lt hsr 0 i (by omega) hi
  rw [e, strLt_empty] at this
  cases this
end

/-- the halves of a page, or the error -/
def splitR (p : List Int) (number : Int) : List Int × List Int × ByteArray × Int :=
  if srtB p = false then (zP, zP, eB, badS p) else if number < 1 ∨ 511 < number then (zP, zP, eB, 2) else if count p < 2 then (zP, zP, eB, 9) else
  if strLt (lowS p) (GP (pairsS p) (placeS (pairsS p))).1 = false then (zP, zP, eB, 13) else if highS p ≠ eB ∧ strLt (GP (pairsS p) (placeS (pairsS p))).1 (highS p) = false then (zP, zP, eB, 13) else
  (keepS (ofS (G p 8 - 1) (lowS p) (GP (pairsS p) (placeS (pairsS p))).1 number ((pairsS p).take (placeS (pairsS p)).toNat)) p,
   ofS (G p 8 - 1) (GP (pairsS p) (placeS (pairsS p))).1 (highS p) (G p 10) ((pairsS p).drop (placeS (pairsS p)).toNat), (GP (pairsS p) (placeS (pairsS p))).1, 0)

theorem split_sorted {p : List Int} (hp : PageOK p) : m_split_sorted p = some (if srtB p = true then (pairsS p, (0 : Int)) else ([], badS p)) := by
  unfold m_split_sorted
  rw [slot_Pairs hp, search_Sorted hp]
  cases hv : validB p with
  | false => simp [srtB, badS, hv]
  | true =>
    cases hs : srtB p with
    | true => simp
    | false =>
      have : srt (pairsS p) = false := by simpa [srtB, hv] using hs
      simp [badS, hv, this]

section
variable {p : List Int} (hp : PageOK p) (hs : srtB p = true) {number : Int} (n0 : 1 ≤ number) (n1 : number ≤ 511) (h2 : 2 ≤ (pairsS p).length)
include hp hs n0 n1 h2
/-- the two pages that are made -/
theorem split_parts : ∃ r : Nat, placeS (pairsS p) = (r : Int) ∧ 1 ≤ r ∧ ∃ hr : r < (pairsS p).length, distS (pairsS p) r ≤ 9 ∧ GP (pairsS p) (placeS (pairsS p)) = (pairsS p)[r] ∧
    ofE (G p 8 - 1) (lowS p) ((pairsS p)[r]).1 number ((pairsS p).take r) = (if strLt (lowS p) ((pairsS p)[r]).1 = false then 13 else 0) ∧
    ofE (G p 8 - 1) ((pairsS p)[r]).1 (highS p) (G p 10) ((pairsS p).drop r) = (if highS p ≠ eB ∧ strLt ((pairsS p)[r]).1 (highS p) = false then 13 else 0) := by
  obtain ⟨hv, hsr⟩ := srtB_spec hs
  obtain ⟨hsm, hx, hsum⟩ := srt_small hp hs
  obtain ⟨r, e, h1, hr, hmin⟩ := placeS_spec hsm h2
  have hh := head_spec (valid_head hv)
  have h10 := hp.2.G 10
  obtain ⟨z1, z2⟩ := lowS_size hp
  obtain ⟨k1, k2⟩ := srt_key hp hs h1 hr
  have hsp := pre_split (pairsS p) r
  have hpr := pre_range hsm r
  have hd0 := sumC_le (hsm.drop r).2
  refine ⟨r, e, h1, hr, place_even hsm h2 (fun x hx' => (hx x hx').2.2) hmin, by rw [e, GP_get hr], ?_, ?_⟩
  · cases hc : strLt (lowS p) ((pairsS p)[r]).1 with
    | true =>
      have hm : makeE (G p 8 - 1) (lowS p) ((pairsS p)[r]).1 number = 0 := makeE_zero.2 ⟨by omega, by omega, z1, k2, .inr hc, by omega, by omega⟩
      rw [ofE_make hm, srt_take hp hs (by omega)]
      simp only [ne_eq, not_true, if_false]
      rw [if_neg (by show ¬ sumC ((pairsS p).take r) > 108; unfold pre at hpr hsp; omega)]
      rfl
    | false =>
      have hm : makeE (G p 8 - 1) (lowS p) ((pairsS p)[r]).1 number = 13 := by
        unfold makeE
        rw [if_neg (by omega), if_neg (by omega), if_pos ⟨k1, hc⟩]
      rw [ofE_bad (by omega), hm]; rfl
  · by_cases hc : highS p ≠ eB ∧ strLt ((pairsS p)[r]).1 (highS p) = false
    · have hm : makeE (G p 8 - 1) ((pairsS p)[r]).1 (highS p) (G p 10) = 13 := by
        unfold makeE
        rw [if_neg (by omega), if_neg (by omega), if_pos hc]
      rw [ofE_bad (by omega), hm, if_pos hc]
    · have h5 : highS p = eB ∨ strLt ((pairsS p)[r]).1 (highS p) = true := by
        by_cases e : highS p = eB
        · exact .inl e
        · right
          cases h : strLt ((pairsS p)[r]).1 (highS p) with
          | true => rfl
          | false => exact absurd ⟨e, h⟩ hc
      have hm : makeE (G p 8 - 1) ((pairsS p)[r]).1 (highS p) (G p 10) = 0 := makeE_zero.2 ⟨by omega, by omega, k2, z2, h5, by omega, by omega⟩
      rw [ofE_make hm, srt_drop hp hs h1 (by omega), if_neg hc]
      simp only [ne_eq, not_true, if_false]
      rw [if_neg (by omega)]
end

theorem split_Split {p : List Int} (hp : PageOK p) (number : Int) : m_split_Split p number = some (splitR p number) := by
  unfold m_split_Split splitR
  dsimp only
  rw [split_sorted hp, slot_Fences hp, slot_Level hp, slot_Next hp]
  cases hs : srtB p with
  | false => simp only [Bool.false_eq_true, if_false, Option.bind_some, badS_bne hs, if_true]
  | true =>
    obtain ⟨hv, hsr⟩ := srtB_spec hs
    obtain ⟨hl, hlc⟩ := pairsS_len hp hv
    obtain ⟨hsm, hx, hsum⟩ := srt_small hp hs
    have hh := head_spec (valid_head hv)
    have h10 := hp.2.G 10
    simp only [if_true, Option.bind_some, bne_self_eq_false, Bool.false_eq_true, if_false, hlc, hv, Bool.true_eq_false]
    by_cases c1 : number < 1
    · simp only [c1, decide_true, if_true, true_or]
    by_cases c2 : number > 511
    · simp only [c1, c2, decide_true, if_true, decide_false, Bool.false_eq_true, if_false, show 511 < number by omega, or_true]
    by_cases c3 : count p < 2
    · simp only [c1, c2, c3, decide_true, if_true, decide_false, Bool.false_eq_true, if_false, show ¬ 511 < number by omega, or_self, show (count p : Int) < 2 by omega]
    obtain ⟨r, e, h1, hr, hd, hg, E1, E2⟩ := split_parts hp hs (number := number) (by omega) (by omega) (by omega)
    have P1 := page_Of (G p 8 - 1) (lowS p) ((pairsS p)[r]).1 number (hsm.take r)
    have P2 := page_Of (G p 8 - 1) ((pairsS p)[r]).1 (highS p) (G p 10) (hsm.drop r)
    rw [E1] at P1
    rw [E2] at P2
    rw [hg, e]
    have wt : win (pairsS p) 0 ((r : Int) - 0) = (pairsS p).take r := win_take
    have wd : win (pairsS p) r ((count p : Int) - r) = (pairsS p).drop r := by rw [← hlc]; exact win_drop
    simp only [c1, c2, c3, decide_false, Bool.false_eq_true, if_false, show ¬ 511 < number by omega, or_self, show ¬ (count p : Int) < 2 by omega, split_place hsm, Option.bind_some, e, Int.natCast_nonneg, if_true, show (r : Int) < (count p : Int) by omega, show (r : Int) ≤ (count p : Int) by omega, Int.le_refl, rd_GP, GP_get hr, wt, wd, P1, P2, Int.toNat_natCast]
    cases hc1 : strLt (lowS p) ((pairsS p)[r]).1 with
    | false => rfl
    | true =>
      simp only [Bool.true_eq_false, if_false, if_true, bne_self_eq_false, Bool.false_eq_true]
      by_cases hc2 : highS p ≠ eB ∧ strLt ((pairsS p)[r]).1 (highS p) = false
      · rw [if_pos hc2, if_pos hc2]; rfl
      · rw [if_neg hc2, if_neg hc2]
        have ht : List.take 8 (win p 0 8) = win p 0 8 := List.take_of_length_le (by rw [win_len (by omega) (by omega) (by rw [hp.1]; omega)]; decide)
        simp only [if_true, bne_self_eq_false, Bool.false_eq_true, if_false, ht]
        rfl

theorem ref17_Split {p : List Int} (hp : PageOK p) (number : Int) : m_ticketlineref17_Split p number = some (splitR p number) := by
  unfold m_ticketlineref17_Split splitR
  rw [ref15_Bad hp]
  cases hs : srtB p with
  | false => simp only [Option.bind_some, badS_bne hs, if_true]
  | true =>
    obtain ⟨hv, hsr⟩ := srtB_spec hs
    obtain ⟨hl, hlc⟩ := pairsS_len hp hv
    obtain ⟨hsm, hx, hsum⟩ := srt_small hp hs
    have hh := head_spec (valid_head hv)
    have h10 := hp.2.G 10
    have hb : badS p = 0 := by have := badS_zero (p := p); rw [hs] at this; simpa using this
    have w8 : IntKind.i64.wrap (IntKind.i64.wrap (G p 8) - 1) = G p 8 - 1 := by rw [wI (x := G p 8) (by omega) (by omega), wI (by omega) (by omega)]
    have w10 : IntKind.i64.wrap (G p 10) = G p 10 := wI (by omega) (by omega)
    simp only [Option.bind_some, hb, bne_self_eq_false, Bool.false_eq_true, if_false, ref_Pairs hp hv, hlc, ref_Fences hp, rd_G, w8, w10, Bool.true_eq_false]
    by_cases c1 : number < 1
    · simp only [c1, decide_true, if_true, true_or]
    by_cases c2 : number > 511
    · simp only [c1, c2, decide_true, if_true, decide_false, Bool.false_eq_true, if_false, show 511 < number by omega, or_true]
    by_cases c3 : count p < 2
    · simp only [c1, c2, c3, decide_true, if_true, decide_false, Bool.false_eq_true, if_false, show ¬ 511 < number by omega, or_self, show (count p : Int) < 2 by omega]
    obtain ⟨r, e, h1, hr, hd, hg, E1, E2⟩ := split_parts hp hs (number := number) (by omega) (by omega) (by omega)
    have P1 := ref16_Of (G p 8 - 1) (lowS p) ((pairsS p)[r]).1 number (hsm.take r)
    have P2 := ref16_Of (G p 8 - 1) ((pairsS p)[r]).1 (highS p) (G p 10) (hsm.drop r)
    rw [E1] at P1
    rw [E2] at P2
    rw [hg, e]
    have wt : win (pairsS p) 0 ((r : Int) - 0) = (pairsS p).take r := win_take
    have wd : win (pairsS p) r ((count p : Int) - r) = (pairsS p).drop r := by rw [← hlc]; exact win_drop
    simp only [c1, c2, c3, decide_false, Bool.false_eq_true, if_false, show ¬ 511 < number by omega, or_self, show ¬ (count p : Int) < 2 by omega, ref17_Place hsm (by omega) (by omega), Option.bind_some, e, Int.natCast_nonneg, if_true, show (r : Int) < (count p : Int) by omega, show (r : Int) ≤ (count p : Int) by omega, Int.le_refl, rd_GP, GP_get hr, wt, wd, P1, P2, Int.toNat_natCast, le_not_lt]
    cases hc1 : strLt (lowS p) ((pairsS p)[r]).1 with
    | false => simp only [Bool.not_false, if_true]
    | true =>
      obtain ⟨z1, z2⟩ := lowS_size hp
      obtain ⟨k1, k2⟩ := srt_key hp hs h1 hr
      have hm : makeE (G p 8 - 1) (lowS p) ((pairsS p)[r]).1 number = 0 := makeE_zero.2 ⟨by omega, by omega, z1, k2, .inr hc1, by omega, by omega⟩
      have hsp := pre_split (pairsS p) r
      have hpr := pre_range hsm r
      have hd0 := sumC_le (hsm.drop r).2
      have F := ofS_facts hm (srt_take hp hs (i := r) (by omega)) (by unfold pre at hpr hsp; omega) (hsm.take r)
      have hK := ref17_Keep hp F.1
      simp only [Bool.not_true, Bool.false_eq_true, if_false, Bool.true_eq_false, if_true, hK, Option.bind_some]
      by_cases hc2 : highS p = eB
      · simp only [hc2, strEq_refl, Bool.not_true, Bool.false_eq_true, if_false, ne_eq, not_true, false_and, if_true]
      · cases hc3 : strLt ((pairsS p)[r]).1 (highS p) with
        | true => simp only [strEq_false hc2, hc2, hc3, Bool.not_false, Bool.not_true, if_true, Bool.false_eq_true, if_false, ne_eq, not_false_eq_true, true_and, Bool.true_eq_false]
        | false => simp only [strEq_false hc2, hc2, hc3, Bool.not_false, Bool.not_true, if_true, Bool.false_eq_true, if_false, ne_eq, not_false_eq_true, true_and, Bool.true_eq_false]
theorem splits17 {p a b : List Int} {n e : Int} {k : ByteArray} (h : m_split_Split p n = some (a, b, k, e)) : m_ticketlinelaw17_splits p n a b k e = some true := by
  unfold m_ticketlinelaw17_splits; rw [h]; simp only [Option.bind_some, beq_refl_page, if_true, strEq_refl, beq_self_eq_true]

end Go.Ev.L
