/- The slots of a page: what the program computes. -/
import Derived.Test.YtfdgkmligadcnaaB2
set_option linter.unusedVariables false
set_option linter.unusedSimpArgs false
namespace Go.Ev.L
open Go Go.Ev Go.Ev.M

/-- key and value of a slot, if its bytes are right -/
def keyOf (p : List Int) (i : Int) : Option ByteArray := U (win p (atS (sw p i)) (W (keyS (sw p i)))) (keyS (sw p i))
def valOf (p : List Int) (i : Int) : Option ByteArray := U (win p (midS (sw p i)) (W (valS (sw p i)))) (valS (sw p i))
def textB (p : List Int) (i : Int) : Bool := (keyOf p i).isSome && (valOf p i).isSome
def childB (p : List Int) (i : Int) : Bool := !decide (G p 8 > 1) || (decide (1 ≤ G p (midS (sw p i))) && decide (G p (midS (sw p i)) ≤ 511))
def goodB (p : List Int) (i : Int) : Bool := sizedB p i && textB p i && childB p i
def pairOf (p : List Int) (i : Int) : ByteArray × (ByteArray × Unit) := ((keyOf p i).getD ⟨#[]⟩, ((valOf p i).getD ⟨#[]⟩, ()))
def overB (p : List Int) (i j : Int) : Bool := decide (atS (sw p i) < endS (sw p j)) && decide (atS (sw p j) < endS (sw p i))
def anyO (p : List Int) (i : Nat) (k : Nat) : Nat → Bool
  | 0 => false
  | m + 1 => overB p i k || anyO p i (k + 1) m
def slotB (p : List Int) (i : Nat) : Bool := goodB p i && !anyO p i 0 i
def validFrom (p : List Int) (i : Nat) : Nat → Bool
  | 0 => true
  | m + 1 => slotB p i && validFrom p (i + 1) m
def count (p : List Int) : Nat := (G p 9).toNat
def validB (p : List Int) : Bool := headB p && validFrom p 0 (count p)
def pairsTo (p : List Int) (n : Nat) : List (ByteArray × (ByteArray × Unit)) := (List.range n).map fun i => pairOf p (i : Nat)
def pairsS (p : List Int) : List (ByteArray × (ByteArray × Unit)) := pairsTo p (count p)

theorem pairsTo_succ (p : List Int) (n : Nat) : pairsTo p (n + 1) = pairsTo p n ++ [pairOf p n] := by simp [pairsTo, List.range_succ]
theorem pairsTo_length (p : List Int) (n : Nat) : (pairsTo p n).length = n := by simp [pairsTo]

structure Sized (p : List Int) (i : Int) : Prop where
  at0 : 0 ≤ atS (sw p i)
  at1 : atS (sw p i) < 128
  key0 : 0 ≤ keyS (sw p i)
  key : keyS (sw p i) ≤ 24
  val0 : 0 ≤ valS (sw p i)
  val : valS (sw p i) ≤ 40
  end1 : endS (sw p i) ≤ 128
  some : atS (sw p i) < endS (sw p i)
  mid0 : atS (sw p i) ≤ midS (sw p i)
  mid1 : midS (sw p i) ≤ endS (sw p i)
  inner : G p 8 ≠ 1 → valS (sw p i) = 8
  low : G p 11 ≤ atS (sw p i)
  mid2 : G p 8 ≠ 1 → midS (sw p i) < 128

theorem sized_spec {p : List Int} (hp : PageOK p) {i : Int} (h : sizedB p i = true) : Sized p i := by
  have hw := hp.2.G (20 + i)
  have hk := keyS_range (sw p i)
  have hv := valS_range (sw p i)
  have Wk := W_le hk.1
  have Wv := W_le hv.1
  have hat : 0 ≤ atS (sw p i) := by
    have : sw p i = G p (20 + i) := rfl
    unfold atS; omega
  simp only [sizedB, Bool.and_eq_true, decide_eq_true_eq, Bool.or_eq_true, Bool.not_eq_true', beq_eq_false_iff_ne, ne_eq] at h
  obtain ⟨⟨⟨⟨⟨h1, h2⟩, h3⟩, h4⟩, h5⟩, h6⟩ := h
  have hend : endS (sw p i) = midS (sw p i) + W (valS (sw p i)) := rfl
  have hmid : midS (sw p i) = atS (sw p i) + W (keyS (sw p i)) := rfl
  have hval : valS (sw p i) ≤ 40 ∧ (G p 8 ≠ 1 → valS (sw p i) = 8) := by
    by_cases c : G p 8 = 1
    · simp [c] at h4
      exact ⟨h4, fun h => absurd c h⟩
    · simp [c] at h4
      exact ⟨by omega, fun _ => h4⟩
  refine ⟨hat, h1, hk.1, h2, hv.1, hval.1, h6, ?_, by omega, by omega, hval.2, h5, fun hc => ?_⟩
  · rcases h3 with h3 | ⟨h3, _⟩
    · omega
    · have := hval.2 h3; omega
  · have := hval.2 hc; omega

theorem slot_text {p : List Int} (hp : PageOK p) {i : Int} (h : Sized p i) : m_slot_text p (atS (sw p i), midS (sw p i), endS (sw p i), keyS (sw p i), valS (sw p i), ()) = some (match keyOf p i with
    | none => (((⟨#[]⟩ : ByteArray), ((⟨#[]⟩ : ByteArray), ())), (12 : Int))
    | some k => match valOf p i with
      | none => ((k, ((⟨#[]⟩ : ByteArray), ())), 12)
      | some v => ((k, (v, ())), 0)) := by
  have Wk := W_le h.key0
  have Wv := W_le h.val0
  have hend : endS (sw p i) = midS (sw p i) + W (valS (sw p i)) := rfl
  have hmid : midS (sw p i) = atS (sw p i) + W (keyS (sw p i)) := rfl
  have h1 := h.at0
  have h2 := h.end1
  have h3 := h.mid0
  have h4 := h.mid1
  have h5 := h.key
  have h6 := h.val
  have hlen := hp.1
  have W0 := W_nonneg (keyS (sw p i))
  have W1 := W_nonneg (valS (sw p i))
  have l1 : (win p (atS (sw p i)) (W (keyS (sw p i)))).length = (W (keyS (sw p i))).toNat := win_len (by omega) (by omega) (by omega)
  have l2 : (win p (midS (sw p i)) (W (valS (sw p i)))).length = (W (valS (sw p i))).toNat := win_len (by omega) (by omega) (by omega)
  have u1 := keys_Unpack (win p (atS (sw p i)) (W (keyS (sw p i)))) (keyS (sw p i)) (hp.2.win _ _) (by omega)
  have u2 := keys_Unpack (win p (midS (sw p i)) (W (valS (sw p i)))) (valS (sw p i)) (hp.2.win _ _) (by omega)
  have k0 := h.key0
  have v0 := h.val0
  simp only [show ¬ keyS (sw p i) < 0 by omega, show ¬ keyS (sw p i) > 40 by omega, if_false, show ((win p (atS (sw p i)) (W (keyS (sw p i)))).length : Int) = W (keyS (sw p i)) by omega, ne_eq, not_true] at u1
  simp only [show ¬ valS (sw p i) < 0 by omega, show ¬ valS (sw p i) > 40 by omega, if_false, show ((win p (midS (sw p i)) (W (valS (sw p i)))).length : Int) = W (valS (sw p i)) by omega, ne_eq, not_true] at u2
  unfold m_slot_text keyOf valOf
  dsimp only
  rw [show midS (sw p i) - atS (sw p i) = W (keyS (sw p i)) by omega, show endS (sw p i) - midS (sw p i) = W (valS (sw p i)) by omega, u1, u2]
  simp only [show (0 : Int) ≤ midS (sw p i) by omega, show midS (sw p i) ≤ 128 by omega, h1, h3, if_true, show (0 : Int) ≤ endS (sw p i) by omega, h2, h4, Option.bind_some]
  cases U (win p (atS (sw p i)) (W (keyS (sw p i)))) (keyS (sw p i)) with
  | none => rfl
  | some k => cases U (win p (midS (sw p i)) (W (valS (sw p i)))) (valS (sw p i)) <;> rfl

/-! ### the words that are taken -/
def anyT (t : List Bool) (w : Nat) : Nat → Bool
  | 0 => false
  | n + 1 => t.getD w false || anyT t (w + 1) n
def setT (t : List Bool) (w : Nat) : Nat → List Bool
  | 0 => t
  | n + 1 => setT (t.set w true) (w + 1) n
theorem anyT_set {t : List Bool} {w : Nat} {b : Bool} : ∀ (n x : Nat), w < x → anyT (t.set w b) x n = anyT t x n := by
  intro n
  induction n with
  | zero => intro x _; rfl
  | succ n ih =>
    intro x hx
    simp only [anyT, ih (x + 1) (by omega)]
    congr 1
    simp [List.getD_eq_getElem?_getD, List.getElem?_set_ne (show w ≠ x by omega)]
theorem anyT_iff {t : List Bool} : ∀ (n w : Nat), anyT t w n = true ↔ ∃ x, w ≤ x ∧ x < w + n ∧ t.getD x false = true := by
  intro n
  induction n with
  | zero => intro w; simp only [anyT, Bool.false_eq_true, false_iff]; rintro ⟨x, h1, h2, _⟩; omega
  | succ n ih =>
    intro w
    simp only [anyT, Bool.or_eq_true, ih]
    constructor
    · rintro (h | ⟨x, h1, h2, h3⟩)
      · exact ⟨w, by omega, by omega, h⟩
      · exact ⟨x, by omega, by omega, h3⟩
    · rintro ⟨x, h1, h2, h3⟩
      by_cases e : x = w
      · subst e; exact .inl h3
      · exact .inr ⟨x, by omega, by omega, h3⟩
theorem setT_length : ∀ (n w : Nat) (t : List Bool), (setT t w n).length = t.length := by
  intro n
  induction n with
  | zero => intro w t; rfl
  | succ n ih => intro w t; simp only [setT, ih, List.length_set]
theorem setT_getD : ∀ (n w : Nat) (t : List Bool) (x : Nat), x < t.length → (setT t w n).getD x false = (t.getD x false || (decide (w ≤ x) && decide (x < w + n))) := by
  intro n
  induction n with
  | zero =>
    intro w t x hx
    have : (decide (w ≤ x) && decide (x < w + 0)) = false := by
      rw [Bool.eq_false_iff]; simp only [ne_eq, Bool.and_eq_true, decide_eq_true_eq]; omega
    simp only [setT, this, Bool.or_false]
  | succ n ih =>
    intro w t x hx
    simp only [setT]
    rw [ih (w + 1) _ x (by simpa using hx)]
    by_cases e : x = w
    · subst e
      have h1 : (t.set x true).getD x false = true := by
        rw [List.getD_eq_getElem?_getD, List.getElem?_set_self hx]; rfl
      rw [h1]
      simp
    · have h1 : (t.set w true).getD x false = t.getD x false := by
        simp only [List.getD_eq_getElem?_getD, List.getElem?_set_ne (show w ≠ x from fun h => e h.symm)]
      have h2 : (decide (w + 1 ≤ x) && decide (x < w + 1 + n)) = (decide (w ≤ x) && decide (x < w + (n + 1))) := by
        rw [Bool.eq_iff_iff]; simp only [Bool.and_eq_true, decide_eq_true_eq]; omega
      rw [h1, h2]

theorem list_l1 {p : List Int} (s0 : (List Int) → Int → Int → (List Bool) → (List (ByteArray × (ByteArray × Unit))) → Option ((List (ByteArray × (ByteArray × Unit))) × Bool)) (c : Int) (i : Nat) (l : List (ByteArray × (ByteArray × Unit))) (a m k v : Int) (e : Nat) (he : e ≤ 128) (hi : i ≤ 1000) (hl : l.length ≤ 1000) (key val : ByteArray) :
    ∀ (d n N w : Nat) (t : List Bool), t.length = 128 → w + d = e → d < n →
    m_slot_list_l1 N s0 n p w c i l t a m e k v key val = if anyT t w d = true then some ([], false) else s0 p c ((i + 1 : Nat) : Int) (setT t w d) (l ++ [(key, (val, ()))]) := by
  intro d
  induction d with
  | zero =>
    intro n N w t ht hw hn
    obtain ⟨n, rfl⟩ : ∃ q, n = q + 1 := ⟨n - 1, by omega⟩
    have hf : fits (List.length l + 1) 32 := by unfold fits; omega
    simp only [m_slot_list_l1, m_slot_list_l1_b, anyT, setT, Bool.false_eq_true, if_false]
    rw [wI (x := (i : Int) + 1) (by omega) (by omega)]
    simp [show ¬ ((w : Int) < e) by omega, hf]
  | succ d ih =>
    intro n N w t ht hw hn
    obtain ⟨n, rfl⟩ : ∃ q, n = q + 1 := ⟨n - 1, by omega⟩
    have := ih n N (w + 1) (t.set w true) (by simpa using ht) (by omega) (by omega)
    have hr : rd .bool t (w : Int) = t.getD w false := by unfold rd; simp; rfl
    simp only [m_slot_list_l1, m_slot_list_l1_b, anyT, setT, hr]
    rw [wI (x := (w : Int) + 1) (by omega) (by omega)]
    simp only [show ((w : Int) < e) by omega, decide_true, if_true, Int.natCast_nonneg, show (w : Int) < 128 by omega, Int.toNat_natCast]
    by_cases hx : t.getD w false = true
    · simp only [hx, if_true, Bool.true_or]
    · have hx' : t.getD w false = false := by simpa using hx
      simp only [hx', Bool.false_eq_true, if_false, Bool.false_or]
      rw [anyT_set d (w + 1) (by omega)] at this
      exact_mod_cast this

/-- the words of the first slots are taken -/
def TK (p : List Int) (i : Nat) (t : List Bool) : Prop := t.length = 128 ∧ ∀ x : Nat, x < 128 → (t.getD x false = true ↔ ∃ j : Nat, j < i ∧ atS (sw p j) ≤ x ∧ (x : Int) < endS (sw p j))

theorem TK.zero (p : List Int) : TK p 0 (List.replicate 128 false) := by
  refine ⟨by simp, fun x hx => ?_⟩
  have : (List.replicate 128 false).getD x false = false := by
    rw [List.getD_eq_getElem?_getD, List.getElem?_replicate]; split <;> rfl
  rw [this]
  simp
theorem TK.succ {p : List Int} {i : Nat} {t : List Bool} (h : TK p i t) (hs : Sized p i) : TK p (i + 1) (setT t (atS (sw p i)).toNat (endS (sw p i) - atS (sw p i)).toNat) := by
  have h1 := hs.at0
  have h2 := hs.some
  refine ⟨by rw [setT_length]; exact h.1, fun x hx => ?_⟩
  rw [setT_getD _ _ _ _ (by rw [h.1]; exact hx), Bool.or_eq_true, h.2 x hx, Bool.and_eq_true, decide_eq_true_eq, decide_eq_true_eq]
  constructor
  · rintro (⟨j, g1, g2, g3⟩ | ⟨g1, g2⟩)
    · exact ⟨j, by omega, g2, g3⟩
    · exact ⟨i, by omega, by omega, by omega⟩
  · rintro ⟨j, g1, g2, g3⟩
    by_cases e : j = i
    · subst e; exact .inr ⟨by omega, by omega⟩
    · exact .inl ⟨j, by omega, g2, g3⟩

theorem anyO_iff {p : List Int} {i : Nat} : ∀ (m k : Nat), anyO p i k m = true ↔ ∃ j : Nat, k ≤ j ∧ j < k + m ∧ overB p i j = true := by
  intro m
  induction m with
  | zero => intro k; simp only [anyO, Bool.false_eq_true, false_iff]; rintro ⟨x, h1, h2, _⟩; omega
  | succ n ih =>
    intro w
    simp only [anyO, Bool.or_eq_true, ih]
    constructor
    · rintro (h | ⟨x, h1, h2, h3⟩)
      · exact ⟨w, by omega, by omega, h⟩
      · exact ⟨x, by omega, by omega, h3⟩
    · rintro ⟨x, h1, h2, h3⟩
      by_cases e : x = w
      · subst e; exact .inl h3
      · exact .inr ⟨x, by omega, by omega, h3⟩

theorem taken_over {p : List Int} {i : Nat} {t : List Bool} (h : TK p i t) (hs : Sized p i) (hj : ∀ j : Nat, j < i → Sized p j) : anyT t (atS (sw p i)).toNat (endS (sw p i) - atS (sw p i)).toNat = anyO p i 0 i := by
  have h1 := hs.at0
  have h2 := hs.some
  have h3 := hs.end1
  rw [Bool.eq_iff_iff, anyT_iff, anyO_iff]
  constructor
  · rintro ⟨x, g1, g2, g3⟩
    obtain ⟨j, k1, k2, k3⟩ := (h.2 x (by omega)).1 g3
    refine ⟨j, by omega, by omega, ?_⟩
    simp only [overB, Bool.and_eq_true, decide_eq_true_eq]; omega
  · rintro ⟨j, g1, g2, g3⟩
    have hjs := hj j (by omega)
    have j1 := hjs.some
    have j0 := hjs.at0
    simp only [overB, Bool.and_eq_true, decide_eq_true_eq] at g3
    by_cases c : atS (sw p j) ≤ atS (sw p i)
    · exact ⟨(atS (sw p i)).toNat, by omega, by omega, (h.2 _ (by omega)).2 ⟨j, by omega, by omega, by omega⟩⟩
    · exact ⟨(atS (sw p j)).toNat, by omega, by omega, (h.2 _ (by omega)).2 ⟨j, by omega, by omega, by omega⟩⟩

theorem list_l0 {p : List Int} (hp : PageOK p) {c : Nat} (hc : c ≤ 108) : ∀ (m n N i : Nat) (t : List Bool), 100000 < N → i + m = c → m < n → TK p i t → (∀ j : Nat, j < i → Sized p j) →
    m_slot_list_l0 N n p c i t (pairsTo p i) = if validFrom p i m = true then some (pairsTo p c, true) else some ([], false) := by
  intro m
  induction m with
  | zero =>
    intro n N i t hN hm hn ht hj
    obtain ⟨n, rfl⟩ : ∃ q, n = q + 1 := ⟨n - 1, by omega⟩
    obtain rfl : i = c := by omega
    simp only [m_slot_list_l0, m_slot_list_l0_b, validFrom, Int.lt_irrefl, decide_false, Bool.false_eq_true, if_false, if_true]
  | succ m ih =>
    intro n N i t hN hm hn ht hj
    obtain ⟨n, rfl⟩ : ∃ q, n = q + 1 := ⟨n - 1, by omega⟩
    simp only [m_slot_list_l0, m_slot_list_l0_b, validFrom, rd_G]
    rw [wI (x := 20 + (i : Int)) (by omega) (by omega), slot_sized hp (i := (i : Int)) (by omega) (by omega)]
    simp only [show (i : Int) < c by omega, decide_true, if_true, Option.bind_some]
    cases hsz : sizedB p i with
    | false => simp [slotB, goodB, hsz]
    | true =>
      have hs := sized_spec hp hsz
      have hw := hp.2.G (20 + i)
      have hT := slot_text hp hs
      have hE : m_slot_entryOf (sw p i) = some (atS (sw p i), midS (sw p i), endS (sw p i), keyS (sw p i), valS (sw p i), ()) := slot_entryOf hw.1 hw.2
      have e20 : G p (20 + (i : Int)) = sw p i := rfl
      rw [e20, hE]
      have m2 := hs.mid2
      have a0 := hs.at0
      have m0 := hs.mid0
      have m1 := hs.mid1
      have e1 := hs.end1
      have s1 := hs.some
      simp only [Bool.not_true, Bool.false_eq_true, if_false, show (0 : Int) ≤ 20 + (i : Int) by omega, show 20 + (i : Int) < 128 by omega, if_true, Option.bind_some, hT]
      have L1 : ∀ (key val : ByteArray), m_slot_list_l1 N (m_slot_list_l0 N n) N p (atS (sw p i)) c i (pairsTo p i) t (atS (sw p i)) (midS (sw p i)) (endS (sw p i)) (keyS (sw p i)) (valS (sw p i)) key val =
          if anyO p i 0 i = true then some ([], false) else m_slot_list_l0 N n p c ((i + 1 : Nat) : Int) (setT t (atS (sw p i)).toNat (endS (sw p i) - atS (sw p i)).toNat) (pairsTo p i ++ [(key, (val, ()))]) := by
        intro key val
        have := list_l1 (p := p) (m_slot_list_l0 N n) c i (pairsTo p i) (atS (sw p i)) (midS (sw p i)) (keyS (sw p i)) (valS (sw p i)) (endS (sw p i)).toNat (by omega) (by omega) (by rw [pairsTo_length]; omega) key val (endS (sw p i) - atS (sw p i)).toNat N N (atS (sw p i)).toNat t ht.1 (by omega) (by omega)
        rw [show (((endS (sw p i)).toNat : Nat) : Int) = endS (sw p i) by omega, show (((atS (sw p i)).toNat : Nat) : Int) = atS (sw p i) by omega, taken_over ht hs hj] at this
        exact this
      cases hk : keyOf p i with
      | none => simp [slotB, goodB, textB, hk]
      | some key =>
        cases hv : valOf p i with
        | none => simp [slotB, goodB, textB, hk, hv]
        | some val =>
          have hpo : pairOf p i = (key, (val, ())) := by simp [pairOf, hk, hv]
          have fin : (if anyO p i 0 i = true then some ([], false) else m_slot_list_l0 N n p c ((i + 1 : Nat) : Int) (setT t (atS (sw p i)).toNat (endS (sw p i) - atS (sw p i)).toNat) (pairsTo p i ++ [(key, (val, ()))])) =
              if (!anyO p i 0 i && validFrom p (i + 1) m) = true then some (pairsTo p c, true) else some ([], false) := by
            cases anyO p i 0 i with
            | true => rfl
            | false =>
              simp only [Bool.false_eq_true, if_false, Bool.not_false, Bool.true_and]
              rw [← hpo, ← pairsTo_succ]
              exact ih n N (i + 1) _ hN (by omega) (by omega) (ht.succ hs) fun j hj' => by
                by_cases e : j = i
                · subst e; exact hs
                · exact hj j (by omega)
          simp only [bne_self_eq_false, Bool.false_eq_true, if_false, L1, fin]
          by_cases c1 : G p 8 > 1
          · have hm2 := m2 (by omega)
            by_cases c2 : G p (midS (sw p i)) < 1
            · simp [c1, c2, slotB, goodB, textB, hk, hv, childB, hsz, show (0 : Int) ≤ midS (sw p i) by omega, hm2, show ¬ 1 ≤ G p (midS (sw p i)) by omega]
            · by_cases c3 : G p (midS (sw p i)) > 511
              · simp [c1, c2, c3, slotB, goodB, textB, hk, hv, childB, hsz, show (0 : Int) ≤ midS (sw p i) by omega, hm2, show ¬ G p (midS (sw p i)) ≤ 511 by omega]
              · simp [c1, c2, c3, slotB, goodB, textB, hk, hv, childB, hsz, show (0 : Int) ≤ midS (sw p i) by omega, hm2, show 1 ≤ G p (midS (sw p i)) by omega, show G p (midS (sw p i)) ≤ 511 by omega]
          · simp [c1, slotB, goodB, textB, hk, hv, childB, hsz]

/-- all keys and values of a page, or that it is none -/
theorem slot_list {p : List Int} (hp : PageOK p) : m_slot_list p = some (if validB p = true then (pairsS p, true) else ([], false)) := by
  unfold m_slot_list m_slot_list_a validB
  rw [slot_head hp]
  cases hh : headB p with
  | false => rfl
  | true =>
    have h9 := hp.2.G 9
    have hc : G p 9 ≤ 108 := by
      simp only [headB, Bool.and_eq_true, decide_eq_true_eq] at hh; omega
    simp (disch := omega) only [Option.bind_some, Bool.not_true, Bool.false_eq_true, if_false, rd_G, wI, Bool.true_and]
    have := list_l0 hp (c := count p) (by unfold count; omega) (count p) FUEL FUEL 0 _ (by have := FUEL_big; omega) (by omega) (by have := FUEL_big; unfold count; omega) (TK.zero p) (fun j hj => by omega)
    rw [show ((count p : Nat) : Int) = G p 9 by unfold count; omega] at this
    refine (by exact_mod_cast this : _ = _).trans ?_
    unfold pairsS
    split <;> rfl
end Go.Ev.L
