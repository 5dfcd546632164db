/- A used page with one more slot; compact pages. -/
import Derived.Test.YtfohnbfhajkelaaO2
set_option linter.unusedVariables false
set_option linter.unusedSimpArgs false
set_option linter.unusedSectionVars false
set_option maxRecDepth 10000
namespace Go.Ev.L
open Go Go.Ev Go.Ev.M

/-- the words of the first n slots are the same, and the top is not higher -/
structure Keep (p q : List Int) (n : Nat) : Prop where
  kind : G q 8 = G p 8
  top : G q 11 ≤ G p 11
  dir : ∀ i : Nat, i < n → sw q i = sw p i
  recs : ∀ i : Nat, i < n → ∀ j, atS (sw p i) ≤ j → j < endS (sw p i) → G q j = G p j
section
variable {p q : List Int} (hp : PageOK p) (hq : PageOK q) {n : Nat} (h : Keep p q n)
include hp hq h
theorem keep_key {i : Nat} (hi : i < n) (hs : Sized p i) : keyOf q i = keyOf p i ∧ valOf q i = valOf p i := by
  have h1 := hs.at0
  have h2 := hs.end1
  have h3 := hs.mid0
  have h4 := hs.mid1
  have hend : endS (sw p i) = midS (sw p i) + W (valS (sw p i)) := rfl
  have hmid : midS (sw p i) = atS (sw p i) + W (keyS (sw p i)) := rfl
  have W0 := W_nonneg (keyS (sw p i))
  have W1 := W_nonneg (valS (sw p i))
  unfold keyOf valOf
  rw [h.dir i hi, win_eq hp.1 hq.1 h1 W0 (by omega) fun j k1 k2 => h.recs i hi j (by omega) (by omega), win_eq hp.1 hq.1 (by omega) W1 (by omega) fun j k1 k2 => h.recs i hi j (by omega) (by omega)]
  exact ⟨rfl, rfl⟩
theorem keep_slot {i : Nat} (hi : i < n) (hsl : slotB p i = true) : slotB q i = true ∧ pairOf q i = pairOf p i := by
  simp only [slotB, Bool.and_eq_true] at hsl
  obtain ⟨hgb, ho⟩ := hsl
  have hg := good_spec hp hgb
  have hs := hg.sized
  obtain ⟨k1, k2⟩ := keep_key hp hq h hi hs
  refine ⟨?_, by unfold pairOf; rw [k1, k2]⟩
  simp only [goodB, Bool.and_eq_true] at hgb
  have hsz : sizedB q i = true := by
    have h1 := hgb.1.1
    unfold sizedB at h1 ⊢
    rw [h.dir i hi, h.kind]
    rw [Bool.and_eq_true, Bool.and_eq_true, decide_eq_true_eq] at h1 ⊢
    have := h.top
    exact ⟨⟨h1.1.1, by have := h1.1.2; omega⟩, h1.2⟩
  have htx : textB q i = textB p i := by unfold textB; rw [k1, k2]
  have hch : childB q i = childB p i := by
    unfold childB; rw [h.dir i hi, h.kind]
    by_cases c : G p 8 > 1
    · have hm2 := hs.inner (by omega)
      have hend : endS (sw p i) = midS (sw p i) + W (valS (sw p i)) := rfl
      have : W (valS (sw p i)) = 1 := by rw [hm2]; decide
      rw [h.recs i hi (midS (sw p i)) hs.mid0 (by omega)]
    · simp [c]
  have han : anyO q i 0 i = anyO p i 0 i := by
    have : ∀ j : Nat, j < i → overB q i j = overB p i j := fun j hj => by
      unfold overB; rw [h.dir i hi, h.dir j (by omega)]
    rw [Bool.eq_iff_iff, anyO_iff, anyO_iff]
    constructor
    · rintro ⟨j, h1, h2, h3⟩; exact ⟨j, h1, h2, by rw [← this j (by omega)]; exact h3⟩
    · rintro ⟨j, h1, h2, h3⟩; exact ⟨j, h1, h2, by rw [this j (by omega)]; exact h3⟩
  simp only [slotB, goodB, hsz, htx, hch, han, Bool.and_eq_true]
  exact ⟨⟨⟨trivial, hgb.1.2⟩, hgb.2⟩, ho⟩
end

/-- a slot's word and its record, as they were written -/
theorem written_slot {q : List Int} (hq : PageOK q) {i : Int} {x : Pr} {t : Int} (h0 : 0 ≤ t) (ht : t + (recS x).length ≤ 128) (hk : x.1.size ≤ 24) (hv : x.2.1.size ≤ 40) (hw : sw q i = wordS t x.1.size x.2.1.size) (hr : ∀ j, t ≤ j → j < t + (recS x).length → G q j = G (recS x) (j - t)) :
    atS (sw q i) = t ∧ keyS (sw q i) = x.1.size ∧ valS (sw q i) = x.2.1.size ∧ endS (sw q i) = t + (recS x).length ∧ midS (sw q i) = t + (packS x.1).length ∧ keyOf q i = some x.1 ∧ valOf q i = some x.2.1 := by
  have e1 : atS (sw q i) = t := by rw [hw]; unfold atS wordS; omega
  have e2 : keyS (sw q i) = x.1.size := by rw [hw]; unfold keyS wordS; omega
  have e3 : valS (sw q i) = x.2.1.size := by rw [hw]; unfold valS wordS; omega
  have W1 := W_nonneg (x.1.size : Int)
  have W2 := W_nonneg (x.2.1.size : Int)
  have l1 : ((packS x.1).length : Int) = W x.1.size := by rw [packS_length]; omega
  have l2 : ((packS x.2.1).length : Int) = W x.2.1.size := by rw [packS_length]; omega
  have ll : ((recS x).length : Int) = (packS x.1).length + (packS x.2.1).length := by unfold recS; rw [List.length_append]; omega
  have e4 : midS (sw q i) = t + (packS x.1).length := by unfold midS; rw [e1, e2]; omega
  have e5 : endS (sw q i) = t + (recS x).length := by unfold endS; rw [e4, e3]; omega
  refine ⟨e1, e2, e3, e5, e4, ?_, ?_⟩
  · unfold keyOf
    rw [e1, e2]
    have : win q t (W x.1.size) = packS x.1 := by
      refine list_ext_G (by rw [win_len h0 W1 (by rw [hq.1]; omega), packS_length]) fun j hj => ?_
      rw [win_len h0 W1 (by rw [hq.1]; omega)] at hj
      rw [G_win h0 _ (by omega) (by omega), hr _ (by omega) (by omega), show t + (j : Int) - t = j by omega]
      unfold recS
      rw [G_append _ (by omega), if_pos (by omega)]
    rw [this, U_pack]
  · unfold valOf
    rw [e4, e3]
    have : win q (t + (packS x.1).length) (W x.2.1.size) = packS x.2.1 := by
      refine list_ext_G (by rw [win_len (by omega) W2 (by rw [hq.1]; omega), packS_length]) fun j hj => ?_
      rw [win_len (by omega) W2 (by rw [hq.1]; omega)] at hj
      rw [G_win (by omega) _ (by omega) (by omega), hr _ (by omega) (by omega)]
      unfold recS
      rw [G_append _ (by omega), if_neg (by omega)]
      congr 1; omega
    rw [this, U_pack]

section
variable {p : List Int} (hp : PageOK p) (hv : validB p = true) {x : Pr} (ha : allowedS (G p 8 == 1) (count p) x = 0) (hroom : 20 + G p 9 + costS x ≤ G p 11)
include hp hv ha hroom

theorem room_of : Room p x := by
  have hh := head_spec (valid_head hv)
  obtain ⟨a1, a2, a3, a4⟩ := allowed_spec ha
  exact ⟨hp, by omega, by omega, hroom, by omega⟩

/-- the theorem of one more slot -/
theorem put_valid : validB (putS p x) = true ∧ pairsS (putS p x) = pairsS p ++ [x] ∧ (∀ j, 0 ≤ j → j < 20 → j ≠ 9 → j ≠ 11 → G (putS p x) j = G p j) ∧ G (putS p x) 9 = G p 9 + 1 ∧ G (putS p x) 11 = G p 11 - (costS x - 1) := by
  have R := room_of hp hv ha hroom
  obtain ⟨n1, n2, n3, n4, n5, n6, n7⟩ := R.nums
  have hq := putS_page R
  have hh := head_spec (valid_head hv)
  obtain ⟨hc, hc9⟩ := count_le hp hv
  obtain ⟨a1, a2, a3, a4⟩ := allowed_spec ha
  have gl : ∀ j, 0 ≤ j → j < 20 → j ≠ 9 → j ≠ 11 → G (putS p x) j = G p j := fun j h0 h1 h2 h3 => by
    rw [G_putS R j h0, if_neg h2, if_neg (by omega), if_neg (by omega), if_neg h3]
  have g9 : G (putS p x) 9 = G p 9 + 1 := by rw [G_putS R 9 (by omega), if_pos rfl]
  have g11 : G (putS p x) 11 = G p 11 - (recS x).length := by rw [G_putS R 11 (by omega), if_neg (by omega), if_neg (by omega), if_neg (by omega), if_pos rfl]
  have hcq : count (putS p x) = count p + 1 := by unfold count at hc9 ⊢; rw [g9]; omega
  have hK : Keep p (putS p x) (count p) := by
    refine ⟨gl 8 (by omega) (by omega) (by omega) (by omega), by rw [g11]; omega, fun i hi => ?_, fun i hi j k1 k2 => ?_⟩
    · unfold sw
      rw [G_putS R _ (by omega), if_neg (by omega), if_neg (by omega), if_neg (by omega), if_neg (by omega)]
    · have hs := (valid_good hp hv hi).sized
      have := hs.low
      rw [G_putS R j (by omega), if_neg (by omega), if_neg (by omega), if_neg (by omega), if_neg (by omega)]
  have hsw : sw (putS p x) (count p) = wordS (G p 11 - (recS x).length) x.1.size x.2.1.size := by
    unfold sw
    rw [G_putS R _ (by omega), if_neg (by omega), if_pos (by omega)]
  obtain ⟨w1, w2, w3, w4, w5, w6, w7⟩ := written_slot hq (i := (count p : Int)) (x := x) (t := G p 11 - (recS x).length) (by omega) (by omega) a3 a4 hsw fun j k1 k2 => by
    rw [G_putS R j (by omega), if_neg (by omega), if_neg (by omega), if_pos (by omega)]
  have hne : 1 ≤ ((recS x).length : Int) := by
    have W1 := W_le (n := (x.1.size : Int)) (by omega)
    have W2 := W_le (n := (x.2.1.size : Int)) (by omega)
    have W3 := W_nonneg (x.1.size : Int)
    have W4 := W_nonneg (x.2.1.size : Int)
    have hcs : costS x = 1 + W x.1.size + W x.2.1.size := rfl
    by_cases ce : x.1 = eB
    · have e8 : (G p 8 == 1) = false := by
        cases h : (G p 8 == 1) with
        | false => rfl
        | true => exact absurd ⟨ce, .inl h⟩ a1
      have := (childV_spec (a2 e8)).1
      omega
    · have := size_pos ce
      omega
  have hnew : slotB (putS p x) (count p) = true := by
    have hsz : sizedB (putS p x) (count p) = true := by
      simp only [sizedB, Bool.and_eq_true, decide_eq_true_eq, Bool.or_eq_true, Bool.not_eq_true', beq_eq_false_iff_ne, ne_eq]
      rw [w1, w2, w3, w4, hK.kind, g11]
      refine ⟨⟨⟨⟨⟨by omega, by omega⟩, ?_⟩, ?_⟩, by omega⟩, by omega⟩
      · by_cases ce : x.1 = eB
        · right
          refine ⟨fun h8 => a1 ⟨ce, .inl (by simpa using h8)⟩, ?_⟩
          rcases Nat.eq_zero_or_pos (count p) with h | h
          · omega
          · exact absurd ⟨ce, .inr (by omega)⟩ a1
        · left; have := size_pos ce; omega
      · by_cases c8 : G p 8 = 1
        · have : (G p 8 == 1) = true := by simpa using c8
          rw [this, if_pos rfl]; simp; omega
        · have e8 : (G p 8 == 1) = false := by simpa using c8
          have := (childV_spec (a2 e8)).1
          rw [e8]; simp; omega
    have htx : textB (putS p x) (count p) = true := by unfold textB; rw [w6, w7]; rfl
    have hch : childB (putS p x) (count p) = true := by
      unfold childB
      rw [hK.kind]
      by_cases c8 : G p 8 > 1
      · have e8 : (G p 8 == 1) = false := by simp; omega
        obtain ⟨v1, v2, v3, v4⟩ := childV_spec (a2 e8)
        have hps : packS x.2.1 = [numV x.2.1] := by rw [v4, pack_w8 (by omega) (by omega), ← v4]
        have ll : ((recS x).length : Int) = (packS x.1).length + 1 := by unfold recS; rw [List.length_append, hps]; simp
        have gm : G (putS p x) (midS (sw (putS p x) (count p))) = numV x.2.1 := by
          rw [w5, G_putS R _ (by omega), if_neg (by omega), if_neg (by omega), if_pos (by omega)]
          unfold recS
          rw [G_append _ (by unfold recS at *; omega), if_neg (by unfold recS at *; omega), hps]
          have : G p 11 - ((packS x.1 ++ [numV x.2.1]).length : Int) + ((packS x.1).length : Int) - (G p 11 - ((packS x.1 ++ [numV x.2.1]).length : Int)) - ((packS x.1).length : Int) = 0 := by omega
          rw [this]; rfl
        rw [gm]; simp [v2, v3]
      · simp [c8]
    have han : anyO (putS p x) (count p) 0 (count p) = false := by
      rw [Bool.eq_false_iff]
      intro h
      obtain ⟨j, k1, k2, k3⟩ := (anyO_iff _ _).1 h
      simp only [overB, Bool.and_eq_true, decide_eq_true_eq] at k3
      rw [hK.dir j (by omega), w4, w1] at k3
      have := (valid_good hp hv (j := j) (by omega)).sized.low
      omega
    simp only [slotB, goodB, hsz, htx, hch, han, Bool.and_self, Bool.not_false]
  have hfence : ∀ a : Int, a = 12 ∨ a = 16 → fenceS (putS p x) a = fenceS p a := by
    intro a ha
    unfold fenceS
    rw [gl a (by omega) (by omega) (by omega) (by omega), win_eq hp.1 hq.1 (a := a + 1) (n := 3) (by omega) (by omega) (by omega) fun j k1 k2 => gl j (by omega) (by omega) (by omega) (by omega)]
  refine ⟨?_, ?_, gl, g9, by rw [g11, n1]⟩
  · unfold validB headB
    rw [hK.kind, g9, gl 10 (by omega) (by omega) (by omega) (by omega), g11, hfence 12 (.inl rfl), hfence 16 (.inr rfl), hcq]
    have hvf : validFrom (putS p x) 0 (count p + 1) = true := by
      rw [validFrom_spec]
      intro j k1 k2
      by_cases e : j = count p
      · subst e; exact hnew
      · exact (keep_slot hp hq hK (by omega) (valid_slot hv (by omega))).1
    rw [hvf]
    simp [hh]
    omega
  · unfold pairsS
    rw [hcq, pairsTo_succ]
    congr 1
    · unfold pairsTo
      refine List.map_congr_left fun i hi => ?_
      rw [List.mem_range] at hi
      exact (keep_slot hp hq hK hi (valid_slot hv hi)).2
    · congr 1
      unfold pairOf
      rw [w6, w7]
      rfl
end
end Go.Ev.L
