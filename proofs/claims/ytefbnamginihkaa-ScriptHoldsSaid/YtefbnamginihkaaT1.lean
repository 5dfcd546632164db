/- Seat 04: keys and values with a number. -/
import Derived.Test.YtefbnamginihkaaK3
import Derived.Test.YtefbnamginihkaaM04
set_option linter.unusedVariables false
set_option maxRecDepth 10000
namespace Go.Ev.L.T4
open Go Go.Ev Go.Ev.M Go.Ev.L

abbrev Op4 := Int × (Int × (Int × (Int × (ByteArray × (ByteArray × (ByteArray × (Int × Unit)))))))
def keyL (n : Int) : List Int := [97 + n / 16, 97 + n % 16] ++ List.replicate (n % 23).toNat 120
def keyS (n : Int) : ByteArray := strOf (keyL n)
def valL (n : Int) : List Int := List.replicate (n % 41).toNat (97 + n % 26)
def valS (n : Int) : ByteArray := strOf (valL n)

theorem strOf_append (xs ys : List Int) : strOf (xs ++ ys) = strOf xs ++ strOf ys := by
  apply bsL_inj
  rw [bsL_append, bsL_strOf, bsL_strOf, bsL_strOf, List.map_append]
theorem bytesOf_strOf {l : List Int} (h : ∀ x, x ∈ l → 0 ≤ x ∧ x < 256) : bytesOf (strOf l) = l := by
  rw [bytesOf_bsL, bsL_strOf, List.map_map]
  conv => rhs; rw [← List.map_id l]
  refine List.map_congr_left fun x hx => ?_
  obtain ⟨a, b⟩ := h x hx
  show (((UInt8.ofNat x.toNat).toNat : Nat) : Int) = x
  rw [UInt8.toNat_ofNat']
  omega
theorem strOf_inj {l m : List Int} (h : ∀ x, x ∈ l → 0 ≤ x ∧ x < 256) (h' : ∀ x, x ∈ m → 0 ≤ x ∧ x < 256) (e : strOf l = strOf m) : l = m := by
  rw [← bytesOf_strOf h, ← bytesOf_strOf h', e]
theorem keyL_range {n : Int} (h : 0 ≤ n ∧ n < 256) : ∀ x, x ∈ keyL n → 0 ≤ x ∧ x < 256 := by
  intro x hx
  simp only [keyL, List.cons_append, List.nil_append, List.mem_cons, List.mem_replicate] at hx
  omega
theorem keyS_size {n : Int} (h : 0 ≤ n ∧ n < 256) : (keyS n).size = 2 + (n % 23).toNat := by
  unfold keyS
  rw [strOf_size]; simp [keyL]; omega
theorem valS_size {n : Int} (h : 0 ≤ n ∧ n < 256) : (valS n).size = (n % 41).toNat := by
  unfold valS
  rw [strOf_size]; simp [valL]
theorem keyS_inj {n m : Int} (h : 0 ≤ n ∧ n < 256) (h' : 0 ≤ m ∧ m < 256) (e : keyS n = keyS m) : n = m := by
  have e := strOf_inj (keyL_range h) (keyL_range h') e
  simp only [keyL, List.cons_append, List.nil_append, List.cons.injEq] at e
  omega
theorem rep_str (s : ByteArray) (b : UInt8) (hs : bsL s = [b]) {c : Int} (h0 : 0 ≤ c) (h1 : c ≤ 1000) : repS s c = some (strOf (List.replicate c.toNat (b.toNat : Int))) := by
  have hz : s.size = 1 := by
    have : (bsL s).length = 1 := by rw [hs]; rfl
    simpa [bsL] using this
  unfold repS
  rw [if_pos h0, if_pos (by omega), if_pos (by rw [hz]; omega)]
  congr 1
  apply bsL_inj
  rw [bsL_strOf]
  show ((Lib.repeatL (bsL s) c.toNat).toArray).toList = _
  rw [hs]
  have := Lib.repeatL_replicate b 1 c.toNat
  rw [show List.replicate 1 b = [b] from rfl, Nat.mul_one] at this
  rw [this]
  simp
theorem script_Key {n : Int} (h : 0 ≤ n ∧ n < 256) : m_script_Key n = some (keyS n) := by
  have w1 : IntKind.u8.wrap (97 + IntKind.u8.wrap (Int.tdiv n 16)) = 97 + n / 16 := by
    rw [Int.tdiv_eq_ediv_of_nonneg h.1, wB (x := n / 16) (by omega) (by omega), wB (by omega) (by omega)]
  have w2 : IntKind.u8.wrap (97 + Int.tmod n 16) = 97 + n % 16 := by rw [Int.tmod_eq_emod_of_nonneg h.1, wB (by omega) (by omega)]
  have w3 : IntKind.i64.wrap (Int.tmod n 23) = n % 23 := by rw [Int.tmod_eq_emod_of_nonneg h.1, wI (by omega) (by omega)]
  have hr := rep_str (⟨#[120]⟩ : ByteArray) 120 rfl (c := n % 23) (by omega) (by omega)
  have hs : (strOf ([97 + n / 16, 97 + n % 16] : List Int)).size + (strOf (List.replicate (n % 23).toNat ((120 : UInt8).toNat : Int))).size < 9223372036854775808 := by
    rw [strOf_size, strOf_size]; simp; omega
  unfold m_script_Key
  simp only [w1, w2, w3, hr, Option.bind_some, if_pos hs]
  rw [← strOf_append]; rfl
theorem enc_byte : ∀ c : Nat, c < 26 → bsL (Utf8.encode (97 + (c : Int))) = [UInt8.ofNat (97 + c)] := by decide +kernel
theorem script_Value {n : Int} (h : 0 ≤ n ∧ n < 256) : m_script_Value n = some (valS n) := by
  have w1 : IntKind.i32.wrap (IntKind.u8.wrap (97 + Int.tmod n 26)) = 97 + ((n % 26).toNat : Int) := by
    rw [Int.tmod_eq_emod_of_nonneg h.1, wB (by omega) (by omega)]
    have : IntKind.i32.wrap (97 + n % 26) = (97 + n % 26 + 2147483648) % 4294967296 - 2147483648 := by
      simp only [IntKind.wrap, IntKind.bits, IntKind.signed, Bool.true_and, decide_eq_true_eq, Int.reducePow, Nat.reduceSub, ge_iff_le]
      split <;> omega
    rw [this]; omega
  have w3 : IntKind.i64.wrap (Int.tmod n 41) = n % 41 := by rw [Int.tmod_eq_emod_of_nonneg h.1, wI (by omega) (by omega)]
  have hr := rep_str _ _ (enc_byte (n % 26).toNat (by omega)) (c := n % 41) (by omega) (by omega)
  have e : (((UInt8.ofNat (97 + (n % 26).toNat)).toNat : Nat) : Int) = 97 + n % 26 := by rw [UInt8.toNat_ofNat']; omega
  unfold m_script_Value
  rw [w1, w3, hr, e]; rfl
theorem known04 : m_ticketlinelaw04_known = some true := rfl
theorem strEq_refl' (x : ByteArray) : strEq x x = true := strEq_iff.2 rfl
/-- the least number of a value from i on -/
def leastV (s : ByteArray) : Nat → Nat → Option Nat
  | 0, _ => none
  | m + 1, i => if valS i = s then some i else leastV s m (i + 1)
def valuedS (s : ByteArray) : Option Nat := leastV s 256 0
theorem leastV_spec {s : ByteArray} : ∀ {m i k : Nat}, leastV s m i = some k → i ≤ k ∧ k < i + m ∧ valS k = s := by
  intro m
  induction m with
  | zero => intro i k h; cases h
  | succ m ih =>
    intro i k h
    unfold leastV at h
    by_cases c : valS i = s
    · rw [if_pos c] at h; cases h; exact ⟨Nat.le_refl _, by omega, c⟩
    · rw [if_neg c] at h; have := ih h; exact ⟨by omega, by omega, this.2.2⟩
theorem leastV_none {s : ByteArray} : ∀ {m i : Nat}, leastV s m i = none → ∀ k, i ≤ k → k < i + m → valS k ≠ s := by
  intro m
  induction m with
  | zero => intro i h k h1 h2; omega
  | succ m ih =>
    intro i h k h1 h2
    unfold leastV at h
    by_cases c : valS i = s
    · rw [if_pos c] at h; cases h
    · rw [if_neg c] at h
      rcases Nat.lt_or_ge i k with d | d
      · exact ih h k (by omega) (by omega)
      · rw [show k = i by omega]; exact c
theorem valued_l0 (s : ByteArray) : ∀ (m i k N : Nat), i + m = 256 → m < k → m_script_valued_l0 N k s i = some (match leastV s m i with | some n => ((n : Int), true) | none => (0, false)) := by
  intro m
  induction m with
  | zero =>
    intro i k N hm hk
    obtain ⟨k, rfl⟩ : ∃ q, k = q + 1 := ⟨k - 1, by omega⟩
    simp only [m_script_valued_l0, m_script_valued_l0_b, show ¬ (i : Int) < 256 by omega, decide_false, Bool.false_eq_true, if_false, leastV]
  | succ m ih =>
    intro i k N hm hk
    obtain ⟨k, rfl⟩ : ∃ q, k = q + 1 := ⟨k - 1, by omega⟩
    have w : IntKind.i64.wrap ((i : Int) + 1) = ((i + 1 : Nat) : Int) := by rw [wI (by omega) (by omega)]; omega
    have w2 : IntKind.u8.wrap (i : Int) = i := wB (by omega) (by omega)
    have hv := script_Value (n := (i : Int)) (by omega)
    have I := ih (i + 1) k N (by omega) (by omega)
    by_cases c : valS i = s
    · have c2 : strEq (valS i) s = true := strEq_iff.2 c
      simp only [m_script_valued_l0, m_script_valued_l0_b, show (i : Int) < 256 by omega, decide_true, if_true, w2, hv, Option.bind_some, c2, leastV, if_pos c]
    · have c2 : strEq (valS i) s = false := strEq_false c
      simp only [m_script_valued_l0, m_script_valued_l0_b, show (i : Int) < 256 by omega, decide_true, if_true, w2, hv, Option.bind_some, c2, Bool.false_eq_true, if_false, leastV, if_neg c, w, I]
theorem script_valued (s : ByteArray) : m_script_valued s = some (match valuedS s with | some n => ((n : Int), true) | none => (0, false)) :=
  valued_l0 s 256 0 FUEL FUEL (by omega) (by have := FUEL_big; omega)
/-- the number of a key -/
def keyN (s : ByteArray) : Int := ((bt s 0 - 97) * 16 + bt s 1 - 97) % 256
def keyedS (s : ByteArray) : Prop := keyS (keyN s) = s
instance (s : ByteArray) : Decidable (keyedS s) := by unfold keyedS; infer_instance
theorem keyN_range (s : ByteArray) : 0 ≤ keyN s ∧ keyN s < 256 := by unfold keyN; omega
theorem bt_strOf {l : List Int} (h : ∀ x, x ∈ l → 0 ≤ x ∧ x < 256) (i : Nat) : bt (strOf l) i = l.getD i 0 := by
  have := B_strOf' h i
  exact this
theorem keyN_keyS {n : Int} (h : 0 ≤ n ∧ n < 256) : keyN (keyS n) = n := by
  have e0 : bt (keyS n) 0 = 97 + n / 16 := bt_strOf (keyL_range h) 0
  have e1 : bt (keyS n) 1 = 97 + n % 16 := bt_strOf (keyL_range h) 1
  unfold keyN
  rw [e0, e1]; omega
theorem keyedS_iff {s : ByteArray} : keyedS s ↔ ∃ n : Int, (0 ≤ n ∧ n < 256) ∧ keyS n = s :=
  ⟨fun h => ⟨_, keyN_range s, h⟩, fun ⟨n, h, e⟩ => by unfold keyedS; rw [← e, keyN_keyS h]⟩
theorem script_keyed (s : ByteArray) : ∃ n : Int, m_script_keyed s = some (n, decide (keyedS s)) ∧ (keyedS s → n = keyN s) := by
  unfold m_script_keyed
  by_cases c : 2 ≤ s.size ∧ s.size ≤ 24
  · have b0 : 0 ≤ bt s 0 ∧ bt s 0 < 256 := by unfold bt; have := (s.data.toList.getD (0 : Int).toNat 0).toNat_lt; omega
    have b1 : 0 ≤ bt s 1 ∧ bt s 1 < 256 := by unfold bt; have := (s.data.toList.getD (1 : Int).toNat 0).toNat_lt; omega
    have w : IntKind.u8.wrap (IntKind.u8.wrap (IntKind.u8.wrap (IntKind.u8.wrap (bt s 0 - 97) * 16) + bt s 1) - 97) = keyN s := by
      simp only [wBmod]; unfold keyN; omega
    refine ⟨keyN s, ?_, fun _ => rfl⟩
    have hK := script_Key (keyN_range s)
    simp only [show ¬ (s.size : Int) < 2 by omega, show ¬ (s.size : Int) > 24 by omega, decide_false, Bool.false_eq_true, if_false, show (0 : Int) < s.size by omega, show (1 : Int) < s.size by omega, if_true, w, hK, Option.bind_some]
    congr 2
    unfold keyedS
    by_cases d : keyS (keyN s) = s
    · rw [decide_eq_true d]; exact strEq_iff.2 d
    · rw [decide_eq_false d]; exact strEq_false d
  · have hn : ¬ keyedS s := fun h => by
      unfold keyedS at h
      have hz := keyS_size (keyN_range s)
      rw [h] at hz
      omega
    refine ⟨0, ?_, fun h => absurd h hn⟩
    rw [decide_eq_false hn]
    by_cases d : (s.size : Int) < 2
    · simp only [d, decide_true, if_true]
    · simp only [d, decide_false, Bool.false_eq_true, if_false, show (s.size : Int) > 24 by omega, decide_true, if_true]
end Go.Ev.L.T4
