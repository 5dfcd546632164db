/- The order of strings; law 14's made pages and swaps. -/
import Derived.Test.YtfdgkmligadcnaaB8
set_option linter.unusedVariables false
set_option linter.unusedSimpArgs false
namespace Go.Ev.L
open Go Go.Ev Go.Ev.M
open Go.Lib (compareBytes cmp_eq)

theorem strEq_iff {x y : ByteArray} : strEq x y = true ↔ x = y := by
  unfold strEq
  rw [ByteArray.toList_eq, ByteArray.toList_eq, beq_iff_eq]
  obtain ⟨a⟩ := x
  obtain ⟨b⟩ := y
  simp
theorem strEq_false {x y : ByteArray} (h : x ≠ y) : strEq x y = false := by
  rw [Bool.eq_false_iff]; exact fun h' => h (strEq_iff.1 h')

theorem u8_tri (a b : UInt8) : a < b ∨ a = b ∨ b < a := by
  rcases Nat.lt_trichotomy a.toNat b.toNat with h | h | h
  · exact .inl (UInt8.lt_iff_toNat_lt.2 h)
  · exact .inr (.inl (UInt8.toNat_inj.1 h))
  · exact .inr (.inr (UInt8.lt_iff_toNat_lt.2 h))
theorem u8_asymm {a b : UInt8} (h : a < b) : ¬ b < a := by
  rw [UInt8.lt_iff_toNat_lt] at *; omega
theorem u8_ne {a b : UInt8} (h : a < b) : a ≠ b := fun e => by subst e; exact UInt8.lt_irrefl _ h

abbrev bl := Op.bytesLess
theorem bl_cons (a b : UInt8) (x y : List UInt8) : bl (a :: x) (b :: y) = (decide (a < b) || (a == b && bl x y)) := rfl
theorem bl_irrefl : ∀ x, bl x x = false := by
  intro x
  induction x with
  | nil => rfl
  | cons a x ih => rw [bl_cons, ih]; simp
theorem bl_trans : ∀ {x y z}, bl x y = true → bl y z = true → bl x z = true := by
  intro x
  induction x with
  | nil =>
    intro y z h1 h2
    cases z with
    | nil => cases y <;> simp [Op.bytesLess] at h2
    | cons c z => rfl
  | cons a x ih =>
    intro y z h1 h2
    cases y with
    | nil => simp [Op.bytesLess] at h1
    | cons b y =>
      cases z with
      | nil => simp [Op.bytesLess] at h2
      | cons c z =>
        rw [bl_cons, Bool.or_eq_true, Bool.and_eq_true, decide_eq_true_eq, beq_iff_eq] at *
        rcases h1 with h1 | ⟨rfl, h1⟩
        · rcases h2 with h2 | ⟨rfl, h2⟩
          · left; rw [UInt8.lt_iff_toNat_lt] at *; omega
          · exact .inl h1
        · rcases h2 with h2 | ⟨rfl, h2⟩
          · exact .inl h2
          · exact .inr ⟨rfl, ih h1 h2⟩
theorem bl_tri : ∀ (x y), bl x y = true ∨ x = y ∨ bl y x = true := by
  intro x
  induction x with
  | nil => intro y; cases y with
    | nil => exact .inr (.inl rfl)
    | cons b y => exact .inl rfl
  | cons a x ih =>
    intro y
    cases y with
    | nil => exact .inr (.inr rfl)
    | cons b y =>
      rw [bl_cons, bl_cons]
      rcases u8_tri a b with h | rfl | h
      · left; simp [h]
      · rcases ih y with h | rfl | h
        · left; simp [h]
        · exact .inr (.inl rfl)
        · right; right; simp [h]
      · right; right; simp [h]
theorem compare_bl : ∀ (x y : List UInt8), compareBytes x y = if bl x y = true then -1 else if bl y x = true then 1 else 0 := by
  intro x
  induction x with
  | nil => intro y; cases y <;> rfl
  | cons a x ih =>
    intro y
    cases y with
    | nil => rfl
    | cons b y =>
      unfold compareBytes
      rw [bl_cons, bl_cons]
      rcases u8_tri a b with h | rfl | h
      · simp [h]
      · have := UInt8.lt_irrefl a
        simp [ih]
      · have h1 := u8_asymm h
        have h2 := u8_ne h
        simp [h, h1, h2.symm]

/-- the order of strings -/
def cmpI (a b : ByteArray) : Int := if strLt a b = true then -1 else if strLt b a = true then 1 else 0
theorem keys_Compare (a b : ByteArray) : m_keys_Compare a b = some (cmpI a b) := by
  unfold m_keys_Compare m_strings_Compare m_internal_bytealg_CompareString cmpS cmpI strLt
  rw [cmp_eq, compare_bl, ByteArray.toList_eq, ByteArray.toList_eq]
  rfl
theorem strLt_irrefl (a : ByteArray) : strLt a a = false := bl_irrefl _
theorem strLt_trans {a b c : ByteArray} (h1 : strLt a b = true) (h2 : strLt b c = true) : strLt a c = true := bl_trans h1 h2
theorem strLt_tri (a b : ByteArray) : strLt a b = true ∨ a = b ∨ strLt b a = true := by
  rcases bl_tri a.toList b.toList with h | h | h
  · exact .inl h
  · refine .inr (.inl (strEq_iff.1 ?_))
    unfold strEq; rw [h]; simp
  · exact .inr (.inr h)
theorem strLt_asymm {a b : ByteArray} (h : strLt a b = true) : strLt b a = false := by
  rw [Bool.eq_false_iff]
  intro h'
  have := strLt_trans h h'
  rw [strLt_irrefl] at this
  cases this

theorem set_splice {xs ys : List Int} {off : Int} (h0 : 0 ≤ off) (h : off.toNat + ys.length ≤ xs.length) {i : Nat} (hi : off.toNat + ys.length ≤ i) (v : Int) : (splice xs off ys).set i v = splice (xs.set i v) off ys := by
  refine List.ext_getElem? fun j => ?_
  rw [splice_get _ _ h0 (by simpa using h), List.getElem?_set, splice_length _ _ h0 h, splice_get _ _ h0 h, List.getElem?_set]
  by_cases c1 : i = j
  · subst c1
    rw [if_pos rfl, if_neg (show ¬ i < off.toNat by omega), if_neg (show ¬ i < off.toNat + ys.length by omega), if_pos rfl]
  · rw [if_neg c1]
    by_cases c2 : j < off.toNat
    · rw [if_pos c2, if_pos c2, if_neg c1]
    · rw [if_neg c2, if_neg c2, if_neg c1]

theorem slot_setFence {p : List Int} {a : Int} (h0 : 0 ≤ a) (h1 : a ≤ 100) {s : ByteArray} (hs : s.size ≤ 24) : m_slot_setFence p a s = some ((0 : Int), splice (p.set a.toNat s.size) (a + 1) (packS s)) := by
  unfold m_slot_setFence
  have p1 := packS_len3 hs
  have w1 : IntKind.i64.wrap (a + 1) = a + 1 := wI (by omega) (by omega)
  have w2 : IntKind.i64.wrap (a + 4) = a + 4 := wI (by omega) (by omega)
  have w3 : IntKind.u64.wrap (s.size : Int) = s.size := wU (by omega) (by omega)
  rw [keys_Pack, if_pos (by omega)]
  simp only [Option.bind_some, bne_self_eq_false, Bool.false_eq_true, if_false, h0, show a < 128 by omega, if_true, w1, w2, w3, show (0 : Int) ≤ a + 4 by omega, show a + 4 ≤ 128 by omega, show (0 : Int) ≤ a + 1 by omega, show a + 1 ≤ a + 4 by omega]
  rw [show (a + 4 - (a + 1)).toNat = 3 by omega, List.take_of_length_le p1]

theorem slot_Make (level : Int) (low high : ByteArray) : m_slot_Make level low high = some (if level < 0 ∨ 6 ≤ level then (List.replicate 128 0, (2 : Int)) else if 24 < low.size ∨ 24 < high.size then (List.replicate 128 0, 5)
    else if high ≠ eB ∧ strLt low high = false then (List.replicate 128 0, 13) else (emptyS level low high, 0)) := by
  unfold m_slot_Make
  by_cases c1 : level < 0
  · simp [c1]
  by_cases c2 : level ≥ 6
  · simp [c1, c2]
  by_cases c3 : (low.size : Int) > 24
  · simp [c1, c2, c3, show 24 < low.size by omega, show ¬ 6 ≤ level by omega]
  by_cases c4 : (high.size : Int) > 24
  · simp [c1, c2, c3, c4, show 24 < high.size by omega, show ¬ 6 ≤ level by omega, show ¬ 24 < low.size by omega]
  have p1 := packS_len3 (s := low) (by omega)
  have p2 := packS_len3 (s := high) (by omega)
  have w1 : IntKind.u64.wrap (IntKind.i64.wrap (1 + level)) = 1 + level := by rw [wI (by omega) (by omega), wU (by omega) (by omega)]
  have f1 := slot_setFence (p := ((List.replicate 128 0).set 8 (1 + level)).set 11 128) (a := 12) (by omega) (by omega) (s := low) (by omega)
  have f2 := slot_setFence (p := splice ((((List.replicate 128 0).set 8 (1 + level)).set 11 128).set (12 : Int).toNat low.size) (12 + 1) (packS low)) (a := 16) (by omega) (by omega) (s := high) (by omega)
  have fin : splice ((splice ((((List.replicate 128 0).set 8 (1 + level)).set 11 128).set (12 : Int).toNat low.size) (12 + 1) (packS low)).set (16 : Int).toNat high.size) (16 + 1) (packS high) = emptyS level low high := by
    rw [set_splice (by omega) (by simp; omega) (by simp; omega)]; rfl
  rw [fin] at f2
  have R : (if level < 0 ∨ 6 ≤ level then (List.replicate 128 0, (2 : Int)) else if 24 < low.size ∨ 24 < high.size then (List.replicate 128 0, 5) else if high ≠ eB ∧ strLt low high = false then (List.replicate 128 0, 13) else (emptyS level low high, 0)) =
      if high ≠ eB ∧ strLt low high = false then (List.replicate 128 0, 13) else (emptyS level low high, 0) := by
    rw [if_neg (by omega), if_neg (by omega)]
  rw [R]
  simp only [c1, c2, c3, c4, decide_false, Bool.false_eq_true, if_false, w1, f1, f2, Option.bind_some, bne_self_eq_false]
  by_cases c5 : high = eB
  · subst c5
    simp only [strEq_refl, Bool.not_true, Bool.false_eq_true, if_false, ne_eq, not_true, false_and]
  · have e5 : strEq high eB = false := strEq_false c5
    simp only [e5, Bool.not_false, if_true, keys_Compare, Option.bind_some, c5, ne_eq, not_false_eq_true, true_and]
    cases hlt : strLt low high with
    | true => simp [cmpI, hlt]
    | false =>
      have : cmpI low high ≥ 0 := by unfold cmpI; rw [hlt]; simp only [Bool.false_eq_true, if_false]; split <;> omega
      simp [this]

theorem beq_refl_page (p : List Int) : Ty.beq (.arr 128 (.int .u64)) p p = true := by
  simp [Ty.beq]

theorem made14 {level : Int} {low high : ByteArray} {e : Int} (he : e = if level < 0 ∨ 6 ≤ level then 2 else if 24 < low.size ∨ 24 < high.size then 5 else if high ≠ eB ∧ strLt low high = false then 13 else 0) : m_ticketlinelaw14_made level low high e = some true := by
  unfold m_ticketlinelaw14_made
  rw [slot_Make]
  by_cases c1 : level < 0 ∨ 6 ≤ level
  · rw [if_pos c1] at he; subst he
    rw [if_pos c1]; simp [beq_refl_page]
  by_cases c2 : 24 < low.size ∨ 24 < high.size
  · rw [if_neg c1, if_pos c2] at he; subst he
    rw [if_neg c1, if_pos c2]; simp [beq_refl_page]
  by_cases c3 : high ≠ eB ∧ strLt low high = false
  · rw [if_neg c1, if_neg c2, if_pos c3] at he; subst he
    rw [if_neg c1, if_neg c2, if_pos c3]; simp [beq_refl_page]
  · rw [if_neg c1, if_neg c2, if_neg c3] at he; subst he
    rw [if_neg c1, if_neg c2, if_neg c3, ref_Empty (by omega) (by omega) (by omega) (by omega)]
    simp [beq_refl_page]

theorem slotMakes_true (level : Int) (low high : ByteArray) : m_ticketlinelaw14_SlotMakes level low high = some true := by
  unfold m_ticketlinelaw14_SlotMakes
  by_cases d1 : (low.size : Int) > 60
  · simp [d1, known14]
  by_cases d2 : (high.size : Int) > 60
  · simp [d1, d2, known14]
  have hm := fun e he => made14 (level := level) (low := low) (high := high) (e := e) he
  simp only [d1, d2, decide_false, Bool.false_eq_true, if_false, known14, Option.bind_some]
  by_cases c1 : level < 0
  · simp [c1, hm 2 (by simp [c1])]
  by_cases c2 : level > 5
  · simp [c1, c2, hm 2 (by rw [if_pos (.inr (by omega))])]
  by_cases c3 : (low.size : Int) > 24
  · simp [c1, c2, c3, hm 5 (by rw [if_neg (by omega), if_pos (by omega)])]
  by_cases c4 : (high.size : Int) > 24
  · simp [c1, c2, c3, c4, hm 5 (by rw [if_neg (by omega), if_pos (by omega)])]
  simp only [c1, c2, c3, c4, decide_false, Bool.false_eq_true, if_false]
  have hE := ref_Empty (level := level) (low := low) (high := high) (by omega) (by omega) (by omega) (by omega)
  have hP := empty_page (level := level) (low := low) (high := high) (by omega) (by omega) (by omega) (by omega)
  by_cases c5 : high = eB
  · have e5 : strEq high eB = true := strEq_iff.2 c5
    have := hm 0 (by rw [if_neg (by omega), if_neg (by omega), if_neg (fun h => h.1 c5)])
    simp [e5, this, hE, right_true hP]
  · have e5 : strEq high eB = false := strEq_false c5
    simp only [e5, Bool.not_false, if_true]
    cases hlt : strLt low high with
    | true =>
      have := hm 0 (by rw [if_neg (by omega), if_neg (by omega), if_neg (fun h => by rw [hlt] at h; cases h.2)])
      simp [this, hE, right_true hP]
    | false =>
      have := hm 13 (by rw [if_neg (by omega), if_neg (by omega), if_pos ⟨c5, hlt⟩])
      simp [this]

theorem slotSwaps_true {x : Pln} (h : PlnOK x) {a b : Int} (ha : 0 ≤ a ∧ a < 256) (hb : 0 ≤ b ∧ b < 256) (both : Bool) : m_ticketlinelaw14_SlotSwaps x a b both = some true := by
  obtain ⟨p, c, h1, h2, h3, h4⟩ := plan_used h
  unfold m_ticketlinelaw14_SlotSwaps
  rw [h4]
  simp only [Option.bind_some, known14]
  by_cases c1 : (c && validB p) = true
  · have hc : c = true := by simp only [Bool.and_eq_true] at c1; exact c1.1
    have hl := h3 hc
    simp only [c1, Bool.not_true, Bool.false_eq_true, if_false]
    by_cases c2 : (x.2.2.2.2.1.length : Int) = 0
    · simp [c2]
    · have e2 : ((x.2.2.2.2.1.length : Int) == 0) = false := by simpa using c2
      have m1 := Int.emod_nonneg a c2
      have m2 := Int.emod_lt_of_pos a (show (0 : Int) < x.2.2.2.2.1.length by omega)
      have m3 := Int.emod_nonneg b c2
      have m4 := Int.emod_lt_of_pos b (show (0 : Int) < x.2.2.2.2.1.length by omega)
      have w1 : IntKind.i64.wrap (20 + Int.tmod (IntKind.i64.wrap a) x.2.2.2.2.1.length) = 20 + a % x.2.2.2.2.1.length := by
        rw [wI (x := a) (by omega) (by omega), Int.tmod_eq_emod_of_nonneg ha.1, wI (by omega) (by omega)]
      have w2 : IntKind.i64.wrap (20 + Int.tmod (IntKind.i64.wrap b) x.2.2.2.2.1.length) = 20 + b % x.2.2.2.2.1.length := by
        rw [wI (x := b) (by omega) (by omega), Int.tmod_eq_emod_of_nonneg hb.1, wI (by omega) (by omega)]
      have g1 := h2.2.G (20 + a % x.2.2.2.2.1.length)
      have g2 := h2.2.G (20 + b % x.2.2.2.2.1.length)
      have r1 := right_true ((h2.set (20 + a % (x.2.2.2.2.1.length : Int)).toNat g2.1 g2.2).set (20 + b % (x.2.2.2.2.1.length : Int)).toNat g1.1 g1.2)
      have r2 := right_true (h2.set (20 + a % (x.2.2.2.2.1.length : Int)).toNat g2.1 g2.2)
      simp only [e2, Bool.false_eq_true, if_false, ne_eq, c2, not_false_eq_true, if_true, w1, w2, rd_G, show (0 : Int) ≤ 20 + a % x.2.2.2.2.1.length by omega, show 20 + a % (x.2.2.2.2.1.length : Int) < 128 by omega, show (0 : Int) ≤ 20 + b % x.2.2.2.2.1.length by omega, show 20 + b % (x.2.2.2.2.1.length : Int) < 128 by omega, r1, r2, Option.bind_some]
      cases both <;> rfl
  · have c1' : (c && validB p) = false := by simpa using c1
    simp only [c1', Bool.not_false, if_true]
end Go.Ev.L
