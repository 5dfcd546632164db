/- Law 14's theorem: words that no record has change nothing; the load is what the records take. -/
import Derived.Test.YtfdgkmligadcnaaB9
set_option linter.unusedVariables false
set_option linter.unusedSimpArgs false
namespace Go.Ev.L
open Go Go.Ev Go.Ev.M

theorem win_eq {p q : List Int} (hp : p.length = 128) (hq : q.length = 128) {a n : Int} (h0 : 0 ≤ a) (h1 : 0 ≤ n) (h : a + n ≤ 128) (he : ∀ j, a ≤ j → j < a + n → G q j = G p j) : win q a n = win p a n := by
  refine List.ext_getElem? fun i => ?_
  unfold win
  rw [List.getElem?_take, List.getElem?_take]
  by_cases hi : i < n.toNat
  · rw [if_pos hi, if_pos hi, List.getElem?_drop, List.getElem?_drop]
    have e := he (a + i) (by omega) (by omega)
    have g1 := G_get (l := q) (i := a.toNat + i) (by omega)
    have g2 := G_get (l := p) (i := a.toNat + i) (by omega)
    rw [show ((a.toNat + i : Nat) : Int) = a + i by omega] at g1 g2
    rw [List.getElem?_eq_getElem (by omega), List.getElem?_eq_getElem (by omega), ← g1, ← g2, e]
  · rw [if_neg hi, if_neg hi]

/-- the words that count are the same -/
structure Agree (p q : List Int) : Prop where
  head : ∀ j, 8 ≤ j → j < 20 + (count p : Int) → G q j = G p j
  recs : ∀ i : Nat, i < count p → ∀ j, atS (sw p i) ≤ j → j < endS (sw p i) → G q j = G p j

theorem Agree.refl (p : List Int) : Agree p p := ⟨fun _ _ _ => rfl, fun _ _ _ _ _ => rfl⟩

section
variable {p q : List Int}

theorem agree_fence (hp : PageOK p) (hq : PageOK q) (h : Agree p q) {a : Int} (ha : 8 ≤ a) (ha' : a + 4 ≤ 20) : fenceS q a = fenceS p a := by
  unfold fenceS
  rw [h.head a (by omega) (by omega), win_eq hp.1 hq.1 (a := a + 1) (n := 3) (by omega) (by omega) (by omega) fun j h1 h2 => h.head j (by omega) (by omega)]
theorem agree_head (hp : PageOK p) (hq : PageOK q) (h : Agree p q) : headB q = headB p := by
  unfold headB
  rw [h.head 8 (by omega) (by omega), h.head 9 (by omega) (by omega), h.head 10 (by omega) (by omega), h.head 11 (by omega) (by omega), agree_fence hp hq h (by omega) (by omega), agree_fence hp hq h (by omega) (by omega)]
theorem agree_count (h : Agree p q) : count q = count p := by
  unfold count; rw [h.head 9 (by omega) (by omega)]
theorem agree_sw (h : Agree p q) {i : Nat} (hi : i < count p) : sw q i = sw p i := h.head _ (by omega) (by omega)
theorem agree_key (hp : PageOK p) (hq : PageOK q) (h : Agree p q) {i : Nat} (hi : i < count p) (hs : Sized p i) : keyOf q i = keyOf p i ∧ valOf q i = valOf p i := by
  have h1 := hs.at0
  have h2 := hs.end1
  have h3 := hs.mid0
  have h4 := hs.mid1
  have hend : endS (sw p i) = midS (sw p i) + W (valS (sw p i)) := rfl
  have hmid : midS (sw p i) = atS (sw p i) + W (keyS (sw p i)) := rfl
  have W0 := W_nonneg (keyS (sw p i))
  have W1 := W_nonneg (valS (sw p i))
  unfold keyOf valOf
  rw [agree_sw h hi, win_eq hp.1 hq.1 h1 W0 (by omega) fun j k1 k2 => h.recs i hi j (by omega) (by omega), win_eq hp.1 hq.1 (by omega) W1 (by omega) fun j k1 k2 => h.recs i hi j (by omega) (by omega)]
  exact ⟨rfl, rfl⟩
theorem agree_anyO (h : Agree p q) {i : Nat} (hi : i < count p) : anyO q i 0 i = anyO p i 0 i := by
  rw [Bool.eq_iff_iff, anyO_iff, anyO_iff]
  have : ∀ j : Nat, j < i → overB q i j = overB p i j := fun j hj => by
    unfold overB; rw [agree_sw h hi, agree_sw h (by omega : j < count p)]
  constructor
  · rintro ⟨j, h1, h2, h3⟩; exact ⟨j, h1, h2, by rw [← this j (by omega)]; exact h3⟩
  · rintro ⟨j, h1, h2, h3⟩; exact ⟨j, h1, h2, by rw [this j (by omega)]; exact h3⟩
theorem agree_valid (hp : PageOK p) (hq : PageOK q) (hv : validB p = true) (h : Agree p q) : validB q = true := by
  unfold validB
  rw [agree_head hp hq h, valid_head hv, agree_count h, Bool.true_and, validFrom_spec]
  intro i _ hi
  have hi : i < count p := by omega
  have hsl := valid_slot hv hi
  have hg := valid_good hp hv hi
  have hs := hg.sized
  simp only [slotB, Bool.and_eq_true] at hsl
  obtain ⟨hgb, ho⟩ := hsl
  obtain ⟨k1, k2⟩ := agree_key hp hq h hi hs
  have h1 := head_spec (valid_head hv)
  have hsz : sizedB q i = sizedB p i := by
    unfold sizedB; rw [agree_sw h hi, h.head 8 (by omega) (by omega), h.head 11 (by omega) (by omega)]
  have htx : textB q i = textB p i := by unfold textB; rw [k1, k2]
  have hch : childB q i = childB p i := by
    unfold childB; rw [agree_sw h hi, h.head 8 (by omega) (by omega)]
    by_cases c : G p 8 > 1
    · have hm2 := hs.inner (by omega)
      have hend : endS (sw p i) = midS (sw p i) + W (valS (sw p i)) := rfl
      have : W (valS (sw p i)) = 1 := by rw [hm2]; decide
      rw [h.recs i hi (midS (sw p i)) hs.mid0 (by omega)]
    · simp [c]
  simp only [slotB, goodB, hsz, htx, hch, agree_anyO h hi, Bool.and_eq_true]
  simp only [goodB, Bool.and_eq_true] at hgb
  exact ⟨hgb, ho⟩
theorem agree_pairs (hp : PageOK p) (hq : PageOK q) (hv : validB p = true) (h : Agree p q) : pairsS q = pairsS p := by
  unfold pairsS pairsTo
  rw [agree_count h]
  refine List.map_congr_left fun i hi => ?_
  rw [List.mem_range] at hi
  obtain ⟨k1, k2⟩ := agree_key hp hq h hi (valid_good hp hv hi).sized
  unfold pairOf
  rw [k1, k2]
end

theorem G_set_ne {p : List Int} {i : Nat} {x : Int} (hi : i < p.length) {j : Int} (hj : 0 ≤ j) (hne : j ≠ i) : G (p.set i x) j = G p j := by
  rw [G_set hi j hj, if_neg hne]

/-- a word that no record has is written -/
theorem Agree.set {p q : List Int} (hp : PageOK p) (hv : validB p = true) (hq : PageOK q) (h : Agree p q) {i : Nat} (hi : i < 128) (h1 : i < 8 ∨ 20 + count p ≤ i) (h2 : ∀ k : Nat, k < count p → ¬ (atS (sw p k) ≤ i ∧ (i : Int) < endS (sw p k))) (x : Int) : Agree p (q.set i x) := by
  have hl := hq.1
  refine ⟨fun j k1 k2 => ?_, fun k hk j k1 k2 => ?_⟩
  · rw [G_set_ne (by omega) (by omega) (by omega)]; exact h.head j k1 k2
  · have h0 := (valid_good hp hv hk).sized.at0
    rw [G_set_ne (by omega) (by omega) (fun e => h2 k hk (by subst e; exact ⟨k1, k2⟩))]; exact h.recs k hk j k1 k2

/-! ### the load -/
theorem setT_count : ∀ (n w : Nat) (t : List Bool), w + n ≤ t.length → anyT t w n = false → (setT t w n).count true = t.count true + n := by
  intro n
  induction n with
  | zero => intro w t _ _; rfl
  | succ n ih =>
    intro w t hl ha
    simp only [anyT, Bool.or_eq_false_iff] at ha
    simp only [setT]
    rw [ih (w + 1) _ (by rw [List.length_set]; omega) (by rw [anyT_set n (w + 1) (by omega)]; exact ha.2)]
    have hw : w < t.length := by omega
    have hb : t[w] = false := by
      have := ha.1
      rw [List.getD_eq_getElem?_getD, List.getElem?_eq_getElem hw] at this; exact this
    rw [List.count_set hw, hb]
    simp; omega

theorem recs_sum {p : List Int} (hp : PageOK p) (hv : validB p = true) : ∀ n : Nat, n ≤ count p → ∃ t, TK p n t ∧ (t.count true : Int) + n = sumC (pairsTo p n) := by
  intro n
  induction n with
  | zero => intro _; exact ⟨_, TK.zero p, by simp [pairsTo, sumC]⟩
  | succ n ih =>
    intro hn
    obtain ⟨t, ht, hc⟩ := ih (by omega)
    have hsl := valid_slot hv (j := n) (by omega)
    have hg := valid_good hp hv (j := n) (by omega)
    have hs := hg.sized
    simp only [slotB, Bool.and_eq_true, Bool.not_eq_true'] at hsl
    have hT := taken_over ht hs fun j hj => (valid_good hp hv (j := j) (by omega)).sized
    rw [hsl.2] at hT
    have h0 := hs.at0
    have h1 := hs.some
    have h2 := hs.end1
    refine ⟨_, ht.succ hs, ?_⟩
    rw [setT_count _ _ _ (by rw [ht.1]; omega) hT, pairsTo_succ, sumC_append]
    obtain ⟨k, hk⟩ := hg.key
    obtain ⟨v, hv'⟩ := hg.val
    have kz : (k.size : Int) = keyS (sw p n) := U_exact hk hs.key0 (by
      have := W_le hs.key0
      have hend : endS (sw p n) = midS (sw p n) + W (valS (sw p n)) := rfl
      have hmid : midS (sw p n) = atS (sw p n) + W (keyS (sw p n)) := rfl
      have W1 := W_nonneg (valS (sw p n))
      have W0 := W_nonneg (keyS (sw p n))
      rw [win_len h0 W0 (by rw [hp.1]; omega)]; omega)
    have vz : (v.size : Int) = valS (sw p n) := U_exact hv' hs.val0 (by
      have := W_le hs.val0
      have hend : endS (sw p n) = midS (sw p n) + W (valS (sw p n)) := rfl
      have m0 := hs.mid0
      have W0 := W_nonneg (valS (sw p n))
      rw [win_len (by omega) W0 (by rw [hp.1]; omega)]; omega)
    have hcost : costS (pairOf p n) = 1 + (endS (sw p n) - atS (sw p n)) := by
      simp only [pairOf, hk, hv', Option.getD_some, costS, kz, vz, endS, midS]; omega
    simp only [sumC, hcost]
    omega
where
  sumC_append (a b : List Pr) : sumC (a ++ b) = sumC a + sumC b := by
    induction a with
    | nil => simp [sumC]
    | cons x a ih => simp only [List.cons_append, sumC, ih]; omega
  U_exact {l : List Int} {n : Int} {s : ByteArray} (h : U l n = some s) (h0 : 0 ≤ n) (hl : n ≤ 8 * l.length) : (s.size : Int) = n := by
    unfold U at h
    split at h
    · cases h; rw [strOf_size, List.length_take, b8_length]; omega
    · cases h

theorem load_gap {p : List Int} (hp : PageOK p) (hv : validB p = true) : sumC (pairsS p) + (G p 11 - G p 9 - 20) ≤ 108 := by
  obtain ⟨t, ht, hc⟩ := recs_sum hp hv (count p) (Nat.le_refl _)
  obtain ⟨hcc, hc9⟩ := count_le hp hv
  have h1 := head_spec (valid_head hv)
  have h11 := hp.2.G 11
  have hlow : ∀ x : Nat, x < (G p 11).toNat → t.getD x false = false := by
    intro x hx
    rw [Bool.eq_false_iff]
    intro hb
    obtain ⟨j, hj, k1, k2⟩ := (ht.2 x (by omega)).1 hb
    have := (valid_good hp hv hj).sized.low
    omega
  have htake : (t.take (G p 11).toNat).count true = 0 := by
    rw [List.count_eq_zero]
    intro hm
    obtain ⟨i, hi⟩ := List.getElem?_of_mem hm
    rw [List.getElem?_take] at hi
    split at hi
    · have := hlow i (by assumption)
      rw [List.getD_eq_getElem?_getD, hi] at this
      cases this
    · cases hi
  have hsplit : t.count true = (t.take (G p 11).toNat).count true + (t.drop (G p 11).toNat).count true := by
    rw [← List.count_append, List.take_append_drop]
  have hle : (t.drop (G p 11).toNat).count true ≤ (t.drop (G p 11).toNat).length := List.count_le_length
  rw [List.length_drop, ht.1] at hle
  unfold pairsS
  omega
end Go.Ev.L
