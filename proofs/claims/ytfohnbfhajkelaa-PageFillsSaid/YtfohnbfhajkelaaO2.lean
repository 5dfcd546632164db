/- Which slots are allowed; a page with one more allowed slot is a used page with one more pair. -/
import Derived.Test.YtfohnbfhajkelaaO1
set_option linter.unusedVariables false
set_option linter.unusedSimpArgs false
set_option linter.unusedSectionVars false
set_option maxRecDepth 10000
namespace Go.Ev.L
open Go Go.Ev Go.Ev.M

theorem B_strOf {l : List Int} (h : U8 l) {j : Nat} (hj : j < l.length) : B (strOf l) j = l[j] := by
  have hx := h l[j] (List.getElem_mem hj)
  unfold B strOf
  simp only [List.getD_eq_getElem?_getD, List.getElem?_map, List.getElem?_eq_getElem hj, Option.map_some, Option.getD_some]
  rw [UInt8.toNat_ofNat']; omega
theorem w8_u8 (w : Int) : U8 (w8 w) := by
  intro x hx
  simp only [w8, List.mem_cons, List.not_mem_nil, or_false] at hx
  rcases hx with rfl | rfl | rfl | rfl | rfl | rfl | rfl | rfl <;> omega
theorem pack_w8 {n : Int} (h0 : 0 ≤ n) (h1 : n < 18446744073709551616) : packS (strOf (w8 n)) = [n] := by
  have hs : (strOf (w8 n)).size = 8 := (bt_w8 n).1
  have hW : (W ((strOf (w8 n)).size : Int)).toNat = 1 := by rw [hs]; decide
  have hb : ∀ j : Nat, (hj : j < 8) → B (strOf (w8 n)) j = (w8 n)[j] := fun j hj => B_strOf (w8_u8 n) hj
  have hp : part (strOf (w8 n)) 0 8 = n := by
    simp only [part, Nat.mul_zero, Nat.zero_add]
    rw [hb 0 (by omega), hb 1 (by omega), hb 2 (by omega), hb 3 (by omega), hb 4 (by omega), hb 5 (by omega), hb 6 (by omega), hb 7 (by omega)]
    simp only [w8, List.getElem_cons_zero, List.getElem_cons_succ]
    omega
  unfold packS
  rw [hW]
  show [part (strOf (w8 n)) 0 8] = [n]
  rw [hp]

/-- is it the value of a child? -/
def numV (s : ByteArray) : Int := bt s 6 * 256 + bt s 7
def childV (s : ByteArray) : Bool := decide (s.size = 8) && decide (1 ≤ numV s) && decide (numV s ≤ 511) && strEq s (strOf (w8 (numV s)))
/-- the error of a slot -/
def allowedS (leaf : Bool) (i : Int) (x : Pr) : Int := if x.1 = eB ∧ (leaf = true ∨ 0 < i) then 2 else if leaf = false ∧ childV x.2.1 = false then 2 else if 24 < x.1.size ∨ 40 < x.2.1.size then 5 else 0

theorem bt_range (s : ByteArray) (i : Int) : 0 ≤ bt s i ∧ bt s i < 256 := by rw [bt_B]; exact B_range s _
theorem w8_small {n : Int} (h0 : 0 ≤ n) (h1 : n < 65536) : w8 n = [0, 0, 0, 0, 0, 0, n / 256, n % 256] := by
  simp only [w8, List.cons.injEq, and_true]
  refine ⟨?_, ?_, ?_, ?_, ?_, ?_, ?_⟩ <;> omega
theorem page_Number (n : Int) : m_page_Number n = some (if n < 1 ∨ 511 < n then (eB, (2 : Int)) else (strOf (w8 n), 0)) := by
  unfold m_page_Number
  by_cases c1 : n < 1
  · simp [c1]
  by_cases c2 : n > 511
  · simp [c1, c2]
  have e1 : shrI .i64 n 8 = n / 256 := by
    unfold shrI
    rw [show (2 : Int) ^ (min (8 : Int).toNat (IntKind.bits .i64)) = 256 by decide]
    exact Int.fdiv_eq_ediv_of_nonneg _ (by omega)
  have e2 : IntKind.u8.wrap (n / 256) = n / 256 := wB (by omega) (by omega)
  have e3 : IntKind.u8.wrap n = n % 256 := by rw [wBmod]
  simp only [c1, c2, decide_false, Bool.false_eq_true, if_false, e1, e2, e3, show ¬ 511 < n by omega, or_self]
  rw [w8_small (by omega) (by omega)]
theorem ref16_Number {n : Int} (h0 : 0 ≤ n) (h1 : n < 65536) : m_ticketlineref16_Number n = some (strOf (w8 n)) := by
  unfold m_ticketlineref16_Number
  rw [w8_small h0 h1, Int.tdiv_eq_ediv_of_nonneg h0, Int.tmod_eq_emod_of_nonneg h0, wI (x := n / 256) (by omega) (by omega), wB (x := n / 256) (by omega) (by omega), wB (x := n % 256) (by omega) (by omega)]
theorem shl_i64 {a : Int} (h0 : 0 ≤ a) (h1 : a < 256) : shlI .i64 a 8 = 256 * a := by
  show IntKind.i64.wrap (a * 2 ^ (min (8 : Int).toNat 64)) = _
  rw [show (2 : Int) ^ (min (8 : Int).toNat 64) = 256 by decide, wI (by omega) (by omega)]; omega
theorem or_i64 {a b : Int} (ha : 0 ≤ a) (ha' : a < 256) (hb : 0 ≤ b) (hb' : b < 256) : bor .i64 (256 * a) b = 256 * a + b := by
  obtain ⟨x, rfl⟩ := Int.eq_ofNat_of_zero_le ha
  obtain ⟨y, rfl⟩ := Int.eq_ofNat_of_zero_le hb
  unfold bor
  show IntKind.i64.wrap ((BitVec.ofInt 64 (256 * (x : Int)) ||| BitVec.ofInt 64 (y : Int)).toNat : Int) = _
  rw [BitVec.toNat_or]
  have e1 : (BitVec.ofInt 64 (256 * (x : Int))).toNat = 2 ^ 8 * x := by rw [BitVec.toNat_ofInt]; omega
  have e2 : (BitVec.ofInt 64 (y : Int)).toNat = y := by rw [BitVec.toNat_ofInt]; omega
  rw [e1, e2, ← Nat.two_pow_add_eq_or_of_lt (show y < 2 ^ 8 by omega), wI (by omega) (by omega)]
  omega
theorem strEq_comm (a b : ByteArray) : strEq a b = strEq b a := by
  by_cases h : a = b
  · subst h; rfl
  · rw [strEq_false h, strEq_false (fun e => h e.symm)]
theorem page_child (s : ByteArray) : m_page_child s = some (childV s) := by
  unfold m_page_child childV
  by_cases c : s.size = 8
  · have b6 := bt_range s 6
    have b7 := bt_range s 7
    have hc : decide (s.size = 8) = true := by simp [c]
    have e1 : ((s.size : Int) != 8) = false := by rw [c]; rfl
    have w6 : IntKind.i64.wrap (bt s 6) = bt s 6 := wI (by omega) (by omega)
    have w7 : IntKind.i64.wrap (bt s 7) = bt s 7 := wI (by omega) (by omega)
    have e2 : bor .i64 (shlI .i64 (bt s 6) 8) (bt s 7) = numV s := by
      rw [shl_i64 b6.1 b6.2, or_i64 b6.1 b6.2 b7.1 b7.2]; unfold numV; omega
    simp only [e1, Bool.false_eq_true, if_false, show (6 : Int) < (s.size : Int) by omega, show (7 : Int) < (s.size : Int) by omega, if_true, w6, w7, e2, page_Number, Option.bind_some, hc, Bool.true_and]
    by_cases c1 : numV s < 1 ∨ 511 < numV s
    · simp only [c1, if_true, show ((2 : Int) == 0) = false by decide, Bool.false_eq_true, if_false]
      rcases c1 with c1 | c1
      · simp [show ¬ 1 ≤ numV s by omega]
      · simp [show ¬ numV s ≤ 511 by omega]
    · simp only [c1, if_false, beq_self_eq_true, if_true, show 1 ≤ numV s by omega, show numV s ≤ 511 by omega, decide_true, Bool.true_and]
      rw [strEq_comm]
  · have e1 : ((s.size : Int) != 8) = true := by simp; omega
    simp [e1, c]
theorem page_allowed (leaf : Bool) (i : Int) (k v : ByteArray) : m_page_allowed leaf i k v = some (allowedS leaf i (k, (v, ()))) := by
  unfold m_page_allowed allowedS m_keys_ValidValue
  have tail : (if (decide ((k.size : Int) > 24)) = true then some (5 : Int) else Option.bind (some (decide ((v.size : Int) ≤ 40))) fun r => if (!r) = true then some 5 else some 0) = some (if 24 < k.size ∨ 40 < v.size then 5 else 0) := by
    by_cases c1 : (k.size : Int) > 24
    · simp [c1, show 24 < k.size by omega]
    · by_cases c2 : (v.size : Int) ≤ 40
      · simp [c1, c2, show ¬ 24 < k.size by omega, show ¬ 40 < v.size by omega]
      · simp [c1, c2, show ¬ 24 < k.size by omega, show 40 < v.size by omega]
  simp only [page_child, tail]
  by_cases c1 : k = eB
  · subst c1
    cases leaf with
    | true => simp [strEq_refl]
    | false =>
      by_cases c2 : i > 0
      · simp [strEq_refl, c2]
      · cases childV v <;> simp [strEq_refl, c2]
  · cases leaf with
    | true => simp [strEq_false c1, c1]
    | false => cases childV v <;> simp [strEq_false c1, c1]
theorem ref16_Allowed (leaf : Bool) (i : Int) (x : Pr) : m_ticketlineref16_Allowed leaf i x = some (allowedS leaf i x) := by
  have b6 := bt_range x.2.1 6
  have b7 := bt_range x.2.1 7
  have w6 : IntKind.i64.wrap (IntKind.i64.wrap (IntKind.i64.wrap (bt x.2.1 6) * 256) + IntKind.i64.wrap (bt x.2.1 7)) = numV x.2.1 := by
    rw [wI (x := bt x.2.1 6) (by omega) (by omega), wI (x := bt x.2.1 7) (by omega) (by omega), wI (x := bt x.2.1 6 * 256) (by omega) (by omega), wI (by omega) (by omega)]; rfl
  have hn : 0 ≤ numV x.2.1 ∧ numV x.2.1 < 65536 := by unfold numV; omega
  have tail : (if (decide ((x.1.size : Int) > 24)) = true then some (5 : Int) else if (decide ((x.2.1.size : Int) > 40)) = true then some 5 else some 0) = some (if 24 < x.1.size ∨ 40 < x.2.1.size then 5 else 0) := by
    by_cases c1 : (x.1.size : Int) > 24
    · simp [c1, show 24 < x.1.size by omega]
    · by_cases c2 : (x.2.1.size : Int) > 40
      · simp [c1, c2, show ¬ 24 < x.1.size by omega, show 40 < x.2.1.size by omega]
      · simp [c1, c2, show ¬ 24 < x.1.size by omega, show ¬ 40 < x.2.1.size by omega]
  have inner : ∀ T : Option Int, (if ((x.2.1.size : Int) == 8) = true then (if (6 : Int) < (x.2.1.size : Int) then (if (7 : Int) < (x.2.1.size : Int) then (if (decide (numV x.2.1 < 1)) = true then some (2 : Int) else if (decide (numV x.2.1 > 511)) = true then some 2 else
      Option.bind (m_ticketlineref16_Number (numV x.2.1)) fun r13 => if (!strEq x.2.1 r13) = true then some 2 else T) else none) else none) else some 2) = if childV x.2.1 = true then T else some 2 := by
    intro T
    unfold childV
    rw [ref16_Number hn.1 hn.2]
    by_cases c : x.2.1.size = 8
    · have e1 : ((x.2.1.size : Int) == 8) = true := by rw [c]; rfl
      simp only [e1, if_true, show (6 : Int) < (x.2.1.size : Int) by omega, show (7 : Int) < (x.2.1.size : Int) by omega, c, decide_true, Bool.true_and, Option.bind_some]
      by_cases c1 : numV x.2.1 < 1
      · simp [c1, show ¬ 1 ≤ numV x.2.1 by omega]
      · by_cases c2 : numV x.2.1 > 511
        · simp [c1, c2, show ¬ numV x.2.1 ≤ 511 by omega]
        · cases strEq x.2.1 (strOf (w8 (numV x.2.1))) <;> simp [c1, c2, show 1 ≤ numV x.2.1 by omega, show numV x.2.1 ≤ 511 by omega]
    · have e1 : ((x.2.1.size : Int) == 8) = false := by simp; omega
      simp [e1, c]
  unfold m_ticketlineref16_Allowed allowedS
  dsimp only
  simp only [w6, tail, inner]
  by_cases c1 : x.1 = eB
  · cases leaf with
    | true => simp [c1, strEq_refl]
    | false =>
      by_cases c2 : i > 0
      · simp [c1, strEq_refl, c2]
      · cases childV x.2.1 <;> simp [c1, strEq_refl, c2]
  · cases leaf with
    | true => simp [strEq_false c1, c1]
    | false => cases childV x.2.1 <;> simp [strEq_false c1, c1]

theorem allowed_spec {leaf : Bool} {i : Int} {x : Pr} (h : allowedS leaf i x = 0) : ¬ (x.1 = eB ∧ (leaf = true ∨ 0 < i)) ∧ (leaf = false → childV x.2.1 = true) ∧ x.1.size ≤ 24 ∧ x.2.1.size ≤ 40 := by
  unfold allowedS at h
  by_cases c1 : x.1 = eB ∧ (leaf = true ∨ 0 < i)
  · rw [if_pos c1] at h; omega
  · rw [if_neg c1] at h
    by_cases c2 : leaf = false ∧ childV x.2.1 = false
    · rw [if_pos c2] at h; omega
    · rw [if_neg c2] at h
      by_cases c3 : 24 < x.1.size ∨ 40 < x.2.1.size
      · rw [if_pos c3] at h; omega
      · refine ⟨c1, fun hl => ?_, by omega, by omega⟩
        cases hc : childV x.2.1 with
        | true => rfl
        | false => exact absurd ⟨hl, hc⟩ c2
theorem childV_spec {s : ByteArray} (h : childV s = true) : s.size = 8 ∧ 1 ≤ numV s ∧ numV s ≤ 511 ∧ s = strOf (w8 (numV s)) := by
  simp only [childV, Bool.and_eq_true, decide_eq_true_eq, strEq_iff] at h
  exact ⟨h.1.1.1, h.1.1.2, h.1.2, h.2⟩
theorem childV_w8 {n : Int} (h0 : 1 ≤ n) (h1 : n ≤ 511) : childV (strOf (w8 n)) = true := by
  obtain ⟨b1, b2, b3⟩ := bt_w8 n
  have hn : numV (strOf (w8 n)) = n := by unfold numV; rw [b2, b3]; omega
  simp only [childV, b1, hn, strEq_refl, decide_true, h0, h1, Bool.and_self]
theorem size_zero {s : ByteArray} (h : s.size = 0) : s = eB := by
  obtain ⟨a⟩ := s
  have : a = #[] := Array.eq_empty_of_size_eq_zero h
  rw [this]
theorem size_pos {s : ByteArray} (h : s ≠ eB) : 1 ≤ s.size := by
  rcases Nat.eq_zero_or_pos s.size with h0 | h0
  · exact absurd (size_zero h0) h
  · exact h0

/-- the slots of a used page are allowed -/
theorem valid_allowed {p : List Int} (hp : PageOK p) (hv : validB p = true) {i : Nat} (hi : i < count p) : allowedS (G p 8 == 1) i (pairOf p i) = 0 := by
  have hg := valid_good hp hv hi
  have hs := hg.sized
  obtain ⟨k, hk⟩ := hg.key
  obtain ⟨v, hv'⟩ := hg.val
  have hpo : pairOf p i = (k, (v, ())) := by simp [pairOf, hk, hv']
  have hU := fun {l n s} (h : U l n = some s) => U_size h
  have ksz : k.size ≤ 24 := by have := U_size hk; have := hs.key; omega
  have vsz : v.size ≤ 40 := by have := U_size hv'; have := hs.val; omega
  have hsz := (valid_slot hv hi)
  simp only [slotB, goodB, Bool.and_eq_true] at hsz
  have hsz := hsz.1.1.1
  simp only [sizedB, Bool.and_eq_true, decide_eq_true_eq, Bool.or_eq_true, Bool.not_eq_true', beq_eq_false_iff_ne, ne_eq] at hsz
  have h3 := hsz.1.1.1.2
  have kex : (k.size : Int) = keyS (sw p i) := recs_sum.U_exact hk hs.key0 (by
    have Wk := W_le hs.key0
    have hend : endS (sw p i) = midS (sw p i) + W (valS (sw p i)) := rfl
    have hmid : midS (sw p i) = atS (sw p i) + W (keyS (sw p i)) := rfl
    have W1 := W_nonneg (valS (sw p i))
    have W0 := W_nonneg (keyS (sw p i))
    have := hs.end1
    rw [win_len hs.at0 W0 (by rw [hp.1]; omega)]; omega)
  rw [hpo]
  unfold allowedS
  have e0 : (eB).size = 0 := rfl
  have n1 : ¬ (k = eB ∧ ((G p 8 == 1) = true ∨ 0 < (i : Int))) := by
    rintro ⟨rfl, h⟩
    rw [e0] at kex
    rcases h3 with h3 | ⟨h3, h4⟩
    · omega
    · rcases h with h | h
      · simp only [beq_iff_eq] at h; exact h3 h
      · omega
  rw [if_neg n1]
  have n2 : ¬ ((G p 8 == 1) = false ∧ childV v = false) := by
    rintro ⟨h, hc⟩
    have h8 : G p 8 ≠ 1 := by simpa using h
    have hvi := val_inner hp hs h8
    rw [hv'] at hvi
    have hh := head_spec (valid_head hv)
    have hch := hg.child (by omega)
    rw [Option.some.inj hvi, childV_w8 hch.1 hch.2] at hc
    cases hc
  rw [if_neg n2, if_neg (by dsimp only; omega)]
end Go.Ev.L
