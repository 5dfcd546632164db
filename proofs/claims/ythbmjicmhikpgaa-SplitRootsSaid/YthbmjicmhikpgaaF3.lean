/- Law 19: the stage's theorem. -/
import Derived.Test.YthbmjicmhikpgaaF2
set_option linter.unusedVariables false
set_option linter.unusedSimpArgs false
set_option linter.unusedSectionVars false
set_option maxRecDepth 10000
namespace Go.Ev.L
open Go Go.Ev Go.Ev.M

/-- the words of the slots are the same -/
structure AgreeS (p q : List Int) : Prop where
  kind : G q 8 = G p 8
  cnt : G q 9 = G p 9
  top : G q 11 = G p 11
  dir : ∀ j, 20 ≤ j → j < 20 + (count p : Int) → G q j = G p j
  recs : ∀ i : Nat, i < count p → ∀ j, atS (sw p i) ≤ j → j < endS (sw p i) → G q j = G p j
section
variable {p q : List Int} (hp : PageOK p) (hq : PageOK q) (hv : validB p = true) (h : AgreeS p q)
include h
theorem agS_count : count q = count p := by unfold count; rw [h.cnt]
theorem agS_sw {i : Nat} (hi : i < count p) : sw q i = sw p i := h.dir _ (by omega) (by omega)
include hp hq
theorem agS_key {i : Nat} (hi : i < count p) (hs : Sized p i) : keyOf q i = keyOf p i ∧ valOf q i = valOf p i := by
  have h1 := hs.at0
  have h2 := hs.end1
  have h3 := hs.mid0
  have h4 := hs.mid1
  have hend : endS (sw p i) = midS (sw p i) + W (valS (sw p i)) := rfl
  have hmid : midS (sw p i) = atS (sw p i) + W (keyS (sw p i)) := rfl
  have W0 := W_nonneg (keyS (sw p i))
  have W1 := W_nonneg (valS (sw p i))
  unfold keyOf valOf
  rw [agS_sw h hi, win_eq hp.1 hq.1 h1 W0 (by omega) fun j k1 k2 => h.recs i hi j (by omega) (by omega), win_eq hp.1 hq.1 (by omega) W1 (by omega) fun j k1 k2 => h.recs i hi j (by omega) (by omega)]
  exact ⟨rfl, rfl⟩
include hv
theorem agS_slots : validFrom q 0 (count q) = true := by
  rw [agS_count h, validFrom_spec]
  intro i _ hi
  have hi : i < count p := by omega
  have hsl := valid_slot hv hi
  have hs := (valid_good hp hv hi).sized
  simp only [slotB, Bool.and_eq_true] at hsl
  obtain ⟨hgb, ho⟩ := hsl
  obtain ⟨k1, k2⟩ := agS_key hp hq h hi hs
  have hsz : sizedB q i = sizedB p i := by unfold sizedB; rw [agS_sw h hi, h.kind, h.top]
  have htx : textB q i = textB p i := by unfold textB; rw [k1, k2]
  have hch : childB q i = childB p i := by
    unfold childB; rw [agS_sw h hi, h.kind]
    by_cases c : G p 8 > 1
    · have hm2 := hs.inner (by omega)
      have hend : endS (sw p i) = midS (sw p i) + W (valS (sw p i)) := rfl
      have : W (valS (sw p i)) = 1 := by rw [hm2]; decide
      rw [h.recs i hi (midS (sw p i)) hs.mid0 (by omega)]
    · simp [c]
  have han : anyO q i 0 i = anyO p i 0 i := by
    have : ∀ j : Nat, j < i → overB q i j = overB p i j := fun j hj => by
      unfold overB; rw [agS_sw h hi, agS_sw h (by omega : j < count p)]
    rw [Bool.eq_iff_iff, anyO_iff, anyO_iff]
    constructor
    · rintro ⟨j, h1, h2, h3⟩; exact ⟨j, h1, h2, by rw [← this j (by omega)]; exact h3⟩
    · rintro ⟨j, h1, h2, h3⟩; exact ⟨j, h1, h2, by rw [this j (by omega)]; exact h3⟩
  simp only [slotB, goodB, hsz, htx, hch, han, Bool.and_eq_true]
  simp only [goodB, Bool.and_eq_true] at hgb
  exact ⟨hgb, ho⟩
theorem agS_pairs : pairsS q = pairsS p := by
  unfold pairsS pairsTo
  rw [agS_count h]
  refine List.map_congr_left fun i hi => ?_
  rw [List.mem_range] at hi
  obtain ⟨k1, k2⟩ := agS_key hp hq h hi (valid_good hp hv hi).sized
  unfold pairOf
  rw [k1, k2]
end

/-- a fence that was written -/
theorem fence_written {q : List Int} (hq : PageOK q) {a : Int} (h0 : 0 ≤ a) (h1 : a ≤ 100) {s : ByteArray} (hs : s.size ≤ 24) (g0 : G q a = s.size) (g1 : ∀ j, 0 ≤ j → j < 3 → G q (a + 1 + j) = G (packS s) j) : fenceS q a = some s := by
  have p3 := packS_len3 hs
  have hlen := hq.1
  unfold fenceS
  rw [g0, if_neg (by omega)]
  have hw : win q (a + 1) 3 = packS s ++ List.replicate (3 - (packS s).length) 0 := by
    refine list_ext_G (by rw [win_len (by omega) (by omega) (by omega)]; simp; omega) fun i hi => ?_
    rw [win_len (by omega) (by omega) (by omega)] at hi
    have hi : i < 3 := by simpa using hi
    rw [G_win (by omega) _ (by omega) (by omega), g1 _ (by omega) (by omega), G_append _ (by omega)]
    by_cases c : (i : Int) < (packS s).length
    · rw [if_pos c]
    · rw [if_neg c, G_out (by omega)]
      unfold G
      rw [List.getD_eq_getElem?_getD, List.getElem?_replicate]; split <;> rfl
  rw [hw, U_pack_zero s (fun x hx => by rw [List.mem_replicate] at hx; omega) (by rw [List.all_eq_true]; intro x hx; rw [List.mem_replicate] at hx; simp [hx.2])]

section
variable {p : List Int} (hp : PageOK p) (hv : validB p = true) {next : Int} (h0 : 0 ≤ next) (h1 : next ≤ 511) {high : ByteArray} (hh : high.size ≤ 24)
include hp hv h0 h1 hh
theorem linkS_agree : AgreeS p (linkS p next high) := by
  have hl := hp.1
  have hc := head_spec (valid_head hv)
  have g : ∀ j, 0 ≤ j → j ≠ 10 → (j < 16 ∨ 20 ≤ j) → G (linkS p next high) j = G p j := fun j k0 k1 k2 => by
    rw [G_linkS hl next high j k0, if_neg k1, if_neg (by omega), if_neg (by omega)]
  refine ⟨g 8 (by omega) (by omega) (by omega), g 9 (by omega) (by omega) (by omega), g 11 (by omega) (by omega) (by omega), fun j k1 k2 => g j (by omega) (by omega) (by omega), fun i hi j k1 k2 => ?_⟩
  have hs := (valid_good hp hv hi).sized
  have := hs.low
  have h9 := hp.2.G 9
  exact g j (by omega) (by omega) (by omega)
theorem linkS_facts : validB (linkS p next high) = true ∧ lowS (linkS p next high) = lowS p ∧ highS (linkS p next high) = high ∧ G (linkS p next high) 8 = G p 8 ∧ G (linkS p next high) 10 = next ∧ pairsS (linkS p next high) = pairsS p := by
  have hA := linkS_agree hp hv h0 h1 hh
  have hq := linkS_page hp h0 h1 hh
  have hl := hp.1
  have hc := head_spec (valid_head hv)
  have g : ∀ j, 0 ≤ j → j ≠ 10 → (j < 16 ∨ 20 ≤ j) → G (linkS p next high) j = G p j := fun j k0 k1 k2 => by
    rw [G_linkS hl next high j k0, if_neg k1, if_neg (by omega), if_neg (by omega)]
  have g10 : G (linkS p next high) 10 = next := by rw [G_linkS hl next high 10 (by omega), if_pos rfl]
  have f12 : fenceS (linkS p next high) 12 = fenceS p 12 := by
    unfold fenceS
    rw [g 12 (by omega) (by omega) (by omega), win_eq hp.1 hq.1 (a := 12 + 1) (n := 3) (by omega) (by omega) (by omega) fun j k1 k2 => g j (by omega) (by omega) (by omega)]
  have f16 : fenceS (linkS p next high) 16 = some high := fence_written hq (by omega) (by omega) hh (by rw [G_linkS hl next high 16 (by omega), if_neg (by omega), if_pos rfl]) fun j k0 k1 => by
    rw [G_linkS hl next high _ (by omega), if_neg (by omega), if_neg (by omega), if_pos (by omega)]; congr 1; omega
  refine ⟨?_, by unfold lowS; rw [f12], by unfold highS; rw [f16]; rfl, hA.kind, g10, agS_pairs hp hq hv hA⟩
  unfold validB headB
  rw [agS_slots hp hq hv hA, hA.kind, hA.cnt, hA.top, g10, f12, f16]
  simp [hc, h1]
end

theorem strLt_empty (x : ByteArray) : strLt x eB = false := by
  unfold strLt
  rw [ByteArray.toList_eq, ByteArray.toList_eq]
  show Op.bytesLess _ [] = false
  cases x.data.toList <;> rfl

theorem where_mono {low high a b : ByteArray} (hf : high = eB ∨ strLt low high = true) (hab : strLt b a = false) : whereS low high a ≤ whereS low high b := by
  unfold whereS
  cases h1 : strLt b low with
  | true =>
    have : strLt a low = true := by
      rcases strLt_tri a b with h | h | h
      · exact strLt_trans h h1
      · rw [h]; exact h1
      · rw [hab] at h; cases h
    simp [this]
  | false =>
    cases h2 : strLt a low with
    | true => cases strEq high eB <;> cases strLt b high <;> simp
    | false =>
      simp only [Bool.false_eq_true, if_false]
      cases he : strEq high eB with
      | true => simp
      | false =>
        simp only [Bool.false_eq_true, if_false]
        cases h3 : strLt a high with
        | true => simp only [if_true]; split <;> omega
        | false =>
          have : strLt b high = false := by
            rw [Bool.eq_false_iff]
            intro h4
            rcases strLt_tri a b with h | h | h
            · rw [strLt_trans h h4] at h3; cases h3
            · rw [h] at h3; rw [h4] at h3; cases h3
            · rw [hab] at h; cases h
          simp [this]
theorem mnmx_le (a b : ByteArray) : strLt (mxS a b) (mnS a b) = false := by
  unfold mxS mnS
  rw [le_not_lt]
  cases h : strLt a b with
  | true => simp [strLt_asymm h]
  | false =>
    cases h2 : strLt b a with
    | true => simp [strLt_asymm h2]
    | false =>
      have : a = b := by
        rcases strLt_tri a b with k | k | k
        · rw [h] at k; cases k
        · exact k
        · rw [h2] at k; cases k
      subst this
      simp [strLt_irrefl]

/-- what is inside of a page is not inside of the next one; what is beyond is not below -/
theorem where_next {l1 b h2 k : ByteArray} (hb : b ≠ eB) : ¬ (whereS l1 b k = 0 ∧ whereS b h2 k = 0) ∧ ¬ (whereS l1 b k = 1 ∧ whereS b h2 k = -1) := by
  unfold whereS
  rw [strEq_false hb]
  cases h : strLt k b with
  | true => cases strLt k l1 <;> simp
  | false => cases strLt k l1 <;> cases strEq h2 eB <;> cases strLt k h2 <;> simp

theorem fholds_l1 {r q : List Int} (hr : PageOK r) (hq : PageOK q) (vr : validB r = true) (vq : validB q = true) (hb : highS r = lowS q) (hne : lowS q ≠ eB) (ks : List ByteArray) (hk : ks.length ≤ 100) : ∀ (m n N i : Nat), i + m = ks.length → m < n →
    m_ticketlinelaw19_FenceHolds_l1 N n ks.length i q r ks = some true := by
  intro m
  induction m with
  | zero =>
    intro n N i hm hn
    obtain ⟨n, rfl⟩ : ∃ q, n = q + 1 := ⟨n - 1, by omega⟩
    simp only [m_ticketlinelaw19_FenceHolds_l1, m_ticketlinelaw19_FenceHolds_l1_b, show ¬ (i : Int) < (ks.length : Int) by omega, decide_false, Bool.false_eq_true, if_false, known19, Option.bind_some]
  | succ m ih =>
    intro n N i hm hn
    obtain ⟨n, rfl⟩ : ∃ q, n = q + 1 := ⟨n - 1, by omega⟩
    have IH := ih n N (i + 1) (by omega) (by omega)
    have w2 : IntKind.i64.wrap ((i : Int) + 1) = ((i + 1 : Nat) : Int) := by rw [wI (by omega) (by omega)]; omega
    obtain ⟨n1, n2⟩ := where_next (l1 := lowS r) (b := lowS q) (h2 := highS q) (k := rdS ks i) hne
    simp only [m_ticketlinelaw19_FenceHolds_l1, m_ticketlinelaw19_FenceHolds_l1_b, show (i : Int) < (ks.length : Int) by omega, decide_true, if_true, Int.natCast_nonneg, rd_S, fence_Where hr, fence_Where hq, vr, vq, Option.bind_some, bne_self_eq_false, Bool.false_eq_true, if_false, w2, IH, hb]
    by_cases c1 : whereS (lowS r) (lowS q) (rdS ks i) = 0
    · have c2 : ¬ whereS (lowS q) (highS q) (rdS ks i) = 0 := fun h => n1 ⟨c1, h⟩
      simp [c1, c2]
    · by_cases c3 : whereS (lowS r) (lowS q) (rdS ks i) = 1
      · have c2 : ¬ whereS (lowS q) (highS q) (rdS ks i) = -1 := fun h => n2 ⟨c3, h⟩
        simp [c3, c2]
      · simp [c1, c3]

section
variable {p q : List Int} (hp : PageOK p) (hq : PageOK q) (vp : validB p = true) (vq : validB q = true) {number : Int} (h0 : 1 ≤ number) (h1 : number ≤ 511)
include hp hq vp vq h0 h1

/-- the end of the law -/
theorem fholds_tail (a b : ByteArray) (N : Nat) (hN : 1000 < N) :
    (Option.bind (m_fence_Link p (IntKind.i64.wrap number) (lowS q)) fun r93 =>
      if (r93.2 != (0 : Int)) = true then some true
      else if (strEq (lowS q) (⟨#[]⟩ : ByteArray)) = true then some true
      else if (G p 8 != G q 8) = true then some true
      else Option.bind (m_fence_Neighbours r93.1 q (IntKind.i64.wrap number)) fun r103 =>
        if (!r103) = true then some false
        else Option.bind (m_fence_Neighbours r93.1 q (IntKind.i64.wrap ((IntKind.i64.wrap number) + (1 : Int)))) fun r106 =>
          if r106 = true then some false
          else m_ticketlinelaw19_FenceHolds_l1 N N ((([a, b, lowS q] : List ByteArray).length : Nat) : Int) (0 : Int) q r93.1 [a, b, lowS q]) = some true := by
  have w1 : IntKind.i64.wrap number = number := wI (by omega) (by omega)
  have w2 : IntKind.i64.wrap (number + 1) = number + 1 := wI (by omega) (by omega)
  rw [w1, w2, fence_Link hp, vp, if_pos rfl, if_neg (by omega)]
  have z := (lowS_size hq).1
  rw [if_neg (by omega)]
  by_cases c : lowS q ≠ eB ∧ strLt (lowS p) (lowS q) = false
  · rw [if_pos c]; rfl
  · rw [if_neg c]
    simp only [Option.bind_some, bne_self_eq_false, Bool.false_eq_true, if_false]
    by_cases ce : lowS q = eB
    · rw [strEq_iff.2 ce]; rfl
    · rw [strEq_false ce]
      simp only [Bool.false_eq_true, if_false]
      by_cases ck : G p 8 = G q 8
      · have hr := linkS_page hp (next := number) (high := lowS q) (by omega) h1 z
        obtain ⟨f1, f2, f3, f4, f5, f6⟩ := linkS_facts hp vp (next := number) (high := lowS q) (by omega) h1 z
        have n1 : nbS (linkS p number (lowS q)) q number = true := by
          unfold nbS; rw [f1, vq, f4, ck, f5, f3, strEq_false ce, strEq_refl]; simp; omega
        have n2 : nbS (linkS p number (lowS q)) q (number + 1) = false := by
          unfold nbS; rw [f5]
          have : (number == number + 1) = false := by simp; omega
          rw [this]; simp
        have L := fholds_l1 hr hq f1 vq f3 ce [a, b, lowS q] (by simp) 3 N N 0 rfl (by omega)
        have hk : (G p 8 != G q 8) = false := by simp [ck]
        simp only [hk, Bool.false_eq_true, if_false, fence_Neighbours hr hq, n1, n2, Option.bind_some, Bool.not_true]
        exact L
      · have hk : (G p 8 != G q 8) = true := by simpa using ck
        simp only [hk, if_true]

theorem fholds_l0 (a b : ByteArray) : ∀ (m n N i : Nat), 1000 < N → i + m = (pairsS p).length → m < n → m_ticketlinelaw19_FenceHolds_l0 N n number a b i p q (pairsS p) = some true := by
  obtain ⟨hl, hlc⟩ := pairsS_len hp vp
  have hc := head_spec (valid_head vp)
  intro m
  induction m with
  | zero =>
    intro n N i hN hm hn
    obtain ⟨n, rfl⟩ : ∃ q, n = q + 1 := ⟨n - 1, by omega⟩
    have T := fholds_tail hp hq vp vq h0 h1 a b N hN
    have w3 : IntKind.i64.wrap ((i : Int) + 1) = (i : Int) + 1 := wI (by omega) (by omega)
    simp only [m_ticketlinelaw19_FenceHolds_l0, m_ticketlinelaw19_FenceHolds_l0_b, w3, show ¬ (i : Int) + 1 < ((pairsS p).length : Int) by omega, decide_false, Bool.false_eq_true, if_false, ref_Fences hq, known19, Option.bind_some, rd_G]
    exact T
  | succ m ih =>
    intro n N i hN hm hn
    obtain ⟨n, rfl⟩ : ∃ q, n = q + 1 := ⟨n - 1, by omega⟩
    have T := fholds_tail hp hq vp vq h0 h1 a b N hN
    have IH := ih n N (i + 1) hN (by omega) (by omega)
    have w3 : IntKind.i64.wrap ((i : Int) + 1) = ((i + 1 : Nat) : Int) := by rw [wI (by omega) (by omega)]; omega
    by_cases c1 : ((i + 1 : Nat) : Int) < ((pairsS p).length : Int)
    · by_cases c2 : G p 8 > 1
      · cases hs : srtB p with
        | true =>
          have hb : badS p = 0 := by have := badS_zero (p := p); rw [hs] at this; simpa using this
          obtain ⟨_, h2⟩ := srtB_spec hs
          have hC := fence_Child hp i
          have hC2 := fence_Child hp ((i + 1 : Nat) : Int)
          rw [hs, if_pos rfl, if_neg (by omega), if_neg (by omega)] at hC hC2
          have hch : childHigh p i = (pairOf p ((i + 1 : Nat) : Int)).1 := by
            unfold childHigh; rw [if_pos (by omega)]; rfl
          have hne : (pairOf p ((i + 1 : Nat) : Int)).1 ≠ eB := by
            intro e
            have hlt := srt_lt h2 i (i + 1) (by omega) (by omega)
            have g := GP_pairs (p := p) (i := ((i + 1 : Nat) : Int)) (by omega) (by omega)
            rw [GP_get (by omega)] at g
            rw [g, e, strLt_empty] at hlt
            cases hlt
          simp only [m_ticketlinelaw19_FenceHolds_l0, m_ticketlinelaw19_FenceHolds_l0_b, w3, c1, decide_true, if_true, rd_G, c2, ref15_Bad hp, hb, Option.bind_some, beq_self_eq_true, hC, hC2, bne_self_eq_false, Bool.false_eq_true, if_false, hch, strEq_refl, Bool.not_true, strEq_false hne, IH]
        | false =>
          have hb := badS_ne hs
          have hb' : (badS p == 0) = false := by simpa using hb
          simp only [m_ticketlinelaw19_FenceHolds_l0, m_ticketlinelaw19_FenceHolds_l0_b, w3, c1, decide_true, if_true, rd_G, c2, ref15_Bad hp, hb', Option.bind_some, Bool.false_eq_true, if_false, ref_Fences hq, known19]
          exact T
      · simp only [m_ticketlinelaw19_FenceHolds_l0, m_ticketlinelaw19_FenceHolds_l0_b, w3, c1, decide_true, if_true, rd_G, c2, decide_false, Bool.false_eq_true, if_false, ref_Fences hq, known19, Option.bind_some]
        exact T
    · simp only [m_ticketlinelaw19_FenceHolds_l0, m_ticketlinelaw19_FenceHolds_l0_b, w3, c1, decide_false, Bool.false_eq_true, if_false, ref_Fences hq, known19, Option.bind_some, rd_G]
      exact T
end

theorem fenceHolds_true {x y : Pln} (hx : PlnOK x) (hy : PlnOK y) {number : Int} (hn : 0 ≤ number ∧ number < 65536) (a b : ByteArray) : m_ticketlinelaw19_FenceHolds x y number a b = some true := by
  obtain ⟨p, c, h1, h2, h3, h4⟩ := plan_used hx
  obtain ⟨q, d, k1, k2, k3, k4⟩ := plan_used hy
  unfold m_ticketlinelaw19_FenceHolds m_ticketlinelaw19_FenceHolds_a
  rw [h4, k4]
  simp only [Option.bind_some, known19]
  by_cases c1 : (c && validB p) = true
  · by_cases c2 : (d && validB q) = true
    · have vp : validB p = true := by simp only [Bool.and_eq_true] at c1; exact c1.2
      have vq : validB q = true := by simp only [Bool.and_eq_true] at c2; exact c2.2
      obtain ⟨hl, hlc⟩ := pairsS_len h2 vp
      simp only [c1, c2, Bool.not_true, Bool.false_eq_true, if_false]
      by_cases d1 : (a.size : Int) > 60
      · simp only [d1, decide_true, if_true]
      by_cases d2 : (b.size : Int) > 60
      · simp only [d1, d2, decide_true, if_true, decide_false, Bool.false_eq_true, if_false]
      by_cases d3 : number < 1
      · simp only [d1, d2, d3, decide_true, if_true, decide_false, Bool.false_eq_true, if_false]
      by_cases d4 : number > 511
      · simp only [d1, d2, d3, d4, decide_true, if_true, decide_false, Bool.false_eq_true, if_false]
      have L := fholds_l0 h2 k2 vp vq (number := number) (by omega) (by omega) a b (pairsS p).length FUEL FUEL 0 (by have := FUEL_big; omega) (by omega) (by have := FUEL_big; omega)
      have L : m_ticketlinelaw19_FenceHolds_l0 FUEL FUEL number a b 0 p q (pairsS p) = some true := L
      simp only [d1, d2, d3, d4, decide_false, Bool.false_eq_true, if_false, fence_Where h2, vp, if_true, Option.bind_some, bne_self_eq_false, ref_Fences h2, ref_Pairs h2 vp, L]
      by_cases e1 : highS p = eB
      · have := where_mono (low := lowS p) (high := highS p) (a := mnS a b) (b := mxS a b) (.inl e1) (mnmx_le a b)
        simp only [strEq_iff.2 e1, if_true, show ¬ whereS (lowS p) (highS p) (mnS a b) > whereS (lowS p) (highS p) (mxS a b) by omega, decide_false, Bool.false_eq_true, if_false]
      · simp only [strEq_false e1, Bool.false_eq_true, if_false]
        cases e2 : strLt (lowS p) (highS p) with
        | true =>
          have := where_mono (low := lowS p) (high := highS p) (a := mnS a b) (b := mxS a b) (.inr e2) (mnmx_le a b)
          simp only [if_true, show ¬ whereS (lowS p) (highS p) (mnS a b) > whereS (lowS p) (highS p) (mxS a b) by omega, decide_false, Bool.false_eq_true, if_false]
        | false => simp only [Bool.false_eq_true, if_false]
    · have c2' : (d && validB q) = false := by simpa using c2
      simp only [c1, c2', Bool.not_true, Bool.not_false, Bool.false_eq_true, if_false, if_true]
  · have c1' : (c && validB p) = false := by simpa using c1
    simp only [c1', Bool.not_false, if_true]
end Go.Ev.L
