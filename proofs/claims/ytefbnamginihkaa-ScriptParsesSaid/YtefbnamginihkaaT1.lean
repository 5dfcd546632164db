/- Seat 04: keys and values with a number. -/
import Derived.Test.YtefbnamginihkaaK3
import Derived.Test.YtefbnamginihkaaM04
set_option linter.unusedVariables false
set_option maxRecDepth 10000
namespace Go.Ev.L.T4
open Go Go.Ev Go.Ev.M Go.Ev.L

abbrev Op4 := Int × (Int × (Int × (Int × (ByteArray × (ByteArray × (ByteArray × (Int × Unit)))))))
def keyL (n : Int) : List Int := [97 + n / 16, 97 + n % 16] ++ List.replicate (n % 23).toNat 120
def keyS (n : Int) : ByteArray := strOf (keyL n)
def valL (n : Int) : List Int := List.replicate (n % 41).toNat (97 + n % 26)
def valS (n : Int) : ByteArray := strOf (valL n)

theorem strOf_append (xs ys : List Int) : strOf (xs ++ ys) = strOf xs ++ strOf ys := by
  apply bsL_inj
  rw [bsL_append, bsL_strOf, bsL_strOf, bsL_strOf, List.map_append]
theorem rep_str (s : ByteArray) (b : UInt8) (hs : bsL s = [b]) {c : Int} (h0 : 0 ≤ c) (h1 : c ≤ 1000) : repS s c = some (strOf (List.replicate c.toNat (b.toNat : Int))) := by
  have hz : s.size = 1 := by
    have : (bsL s).length = 1 := by rw [hs]; rfl
    simpa [bsL] using this
  unfold repS
  rw [if_pos h0, if_pos (by omega), if_pos (by rw [hz]; omega)]
  congr 1
  apply bsL_inj
  rw [bsL_strOf]
  show ((Lib.repeatL (bsL s) c.toNat).toArray).toList = _
  rw [hs]
  have := Lib.repeatL_replicate b 1 c.toNat
  rw [show List.replicate 1 b = [b] from rfl, Nat.mul_one] at this
  rw [this]
  simp
theorem script_Key {n : Int} (h : 0 ≤ n ∧ n < 256) : m_script_Key n = some (keyS n) := by
  have w1 : IntKind.u8.wrap (97 + IntKind.u8.wrap (Int.tdiv n 16)) = 97 + n / 16 := by
    rw [Int.tdiv_eq_ediv_of_nonneg h.1, wB (x := n / 16) (by omega) (by omega), wB (by omega) (by omega)]
  have w2 : IntKind.u8.wrap (97 + Int.tmod n 16) = 97 + n % 16 := by rw [Int.tmod_eq_emod_of_nonneg h.1, wB (by omega) (by omega)]
  have w3 : IntKind.i64.wrap (Int.tmod n 23) = n % 23 := by rw [Int.tmod_eq_emod_of_nonneg h.1, wI (by omega) (by omega)]
  have hr := rep_str (⟨#[120]⟩ : ByteArray) 120 rfl (c := n % 23) (by omega) (by omega)
  have hs : (strOf ([97 + n / 16, 97 + n % 16] : List Int)).size + (strOf (List.replicate (n % 23).toNat ((120 : UInt8).toNat : Int))).size < 9223372036854775808 := by
    rw [strOf_size, strOf_size]; simp; omega
  unfold m_script_Key
  simp only [w1, w2, w3, hr, Option.bind_some, if_pos hs]
  rw [← strOf_append]; rfl
theorem enc_byte : ∀ c : Nat, c < 26 → bsL (Utf8.encode (97 + (c : Int))) = [UInt8.ofNat (97 + c)] := by decide +kernel
theorem script_Value {n : Int} (h : 0 ≤ n ∧ n < 256) : m_script_Value n = some (valS n) := by
  have w1 : IntKind.i32.wrap (IntKind.u8.wrap (97 + Int.tmod n 26)) = 97 + ((n % 26).toNat : Int) := by
    rw [Int.tmod_eq_emod_of_nonneg h.1, wB (by omega) (by omega)]
    have : IntKind.i32.wrap (97 + n % 26) = (97 + n % 26 + 2147483648) % 4294967296 - 2147483648 := by
      simp only [IntKind.wrap, IntKind.bits, IntKind.signed, Bool.true_and, decide_eq_true_eq, Int.reducePow, Nat.reduceSub, ge_iff_le]
      split <;> omega
    rw [this]; omega
  have w3 : IntKind.i64.wrap (Int.tmod n 41) = n % 41 := by rw [Int.tmod_eq_emod_of_nonneg h.1, wI (by omega) (by omega)]
  have hr := rep_str _ _ (enc_byte (n % 26).toNat (by omega)) (c := n % 41) (by omega) (by omega)
  have e : (((UInt8.ofNat (97 + (n % 26).toNat)).toNat : Nat) : Int) = 97 + n % 26 := by rw [UInt8.toNat_ofNat']; omega
  unfold m_script_Value
  rw [w1, w3, hr, e]; rfl
theorem fits1 {n m : Nat} (h : n + m ≤ 140737488355328) : fits (n + m) 1 := by unfold fits; omega
theorem key_l0 {n : Int} (h : 0 ≤ n ∧ n < 256) : ∀ (m i k N : Nat) (l : List Int), (i + m : Int) = n % 23 → m < k → l.length ≤ 100 + i → m_ticketlineref04_Key_l0 N k n i l = some (strOf (l ++ List.replicate m 120)) := by
  intro m
  induction m with
  | zero =>
    intro i k N l hm hk hl
    obtain ⟨k, rfl⟩ : ∃ q, k = q + 1 := ⟨k - 1, by omega⟩
    have : ¬ (i : Int) < Int.tmod n 23 := by rw [Int.tmod_eq_emod_of_nonneg h.1]; omega
    simp only [m_ticketlineref04_Key_l0, m_ticketlineref04_Key_l0_b, this, decide_false, Bool.false_eq_true, if_false, List.replicate_zero, List.append_nil]
  | succ m ih =>
    intro i k N l hm hk hl
    obtain ⟨k, rfl⟩ : ∃ q, k = q + 1 := ⟨k - 1, by omega⟩
    have c : (i : Int) < Int.tmod n 23 := by rw [Int.tmod_eq_emod_of_nonneg h.1]; omega
    have w : IntKind.i64.wrap ((i : Int) + 1) = ((i + 1 : Nat) : Int) := by rw [wI (by omega) (by omega)]; omega
    have f : fits (l.length + List.length ([120] : List Int)) 1 := fits1 (by simp; omega)
    have I := ih (i + 1) k N (l ++ [120]) (by omega) (by omega) (by simp; omega)
    simp only [m_ticketlineref04_Key_l0, m_ticketlineref04_Key_l0_b, c, decide_true, if_true, if_pos f, w, I]
    rw [List.append_assoc]; rfl
theorem ref04_Key {n : Int} (h : 0 ≤ n ∧ n < 256) : m_ticketlineref04_Key n = some (keyS n) := by
  have w1 : IntKind.u8.wrap (IntKind.i64.wrap (97 + IntKind.i64.wrap (Int.tdiv n 16))) = 97 + n / 16 := by
    rw [Int.tdiv_eq_ediv_of_nonneg h.1, wI (x := n / 16) (by omega) (by omega), wI (by omega) (by omega), wB (by omega) (by omega)]
  have w2 : IntKind.u8.wrap (IntKind.i64.wrap (97 + Int.tmod n 16)) = 97 + n % 16 := by rw [Int.tmod_eq_emod_of_nonneg h.1, wI (by omega) (by omega), wB (by omega) (by omega)]
  have I := key_l0 h (n % 23).toNat 0 FUEL FUEL [97 + n / 16, 97 + n % 16] (by omega) (by have := FUEL_big; omega) (by simp)
  unfold m_ticketlineref04_Key m_ticketlineref04_Key_a
  rw [w1, w2]; exact I
theorem val_l0 {n : Int} (h : 0 ≤ n ∧ n < 256) : ∀ (m i k N : Nat) (l : List Int), (i + m : Int) = n % 41 → m < k → l.length ≤ 100 + i → m_ticketlineref04_Value_l0 N k n i l = some (strOf (l ++ List.replicate m (97 + n % 26))) := by
  have w1 : IntKind.u8.wrap (IntKind.i64.wrap (97 + Int.tmod n 26)) = 97 + n % 26 := by rw [Int.tmod_eq_emod_of_nonneg h.1, wI (by omega) (by omega), wB (by omega) (by omega)]
  intro m
  induction m with
  | zero =>
    intro i k N l hm hk hl
    obtain ⟨k, rfl⟩ : ∃ q, k = q + 1 := ⟨k - 1, by omega⟩
    have : ¬ (i : Int) < Int.tmod n 41 := by rw [Int.tmod_eq_emod_of_nonneg h.1]; omega
    simp only [m_ticketlineref04_Value_l0, m_ticketlineref04_Value_l0_b, this, decide_false, Bool.false_eq_true, if_false, List.replicate_zero, List.append_nil]
  | succ m ih =>
    intro i k N l hm hk hl
    obtain ⟨k, rfl⟩ : ∃ q, k = q + 1 := ⟨k - 1, by omega⟩
    have c : (i : Int) < Int.tmod n 41 := by rw [Int.tmod_eq_emod_of_nonneg h.1]; omega
    have w : IntKind.i64.wrap ((i : Int) + 1) = ((i + 1 : Nat) : Int) := by rw [wI (by omega) (by omega)]; omega
    have f : fits (l.length + List.length ([97 + n % 26] : List Int)) 1 := fits1 (by simp; omega)
    have I := ih (i + 1) k N (l ++ [97 + n % 26]) (by omega) (by omega) (by simp; omega)
    simp only [m_ticketlineref04_Value_l0, m_ticketlineref04_Value_l0_b, c, decide_true, if_true, w1, if_pos f, w, I]
    rw [List.append_assoc]; rfl
theorem ref04_Value {n : Int} (h : 0 ≤ n ∧ n < 256) : m_ticketlineref04_Value n = some (valS n) := by
  have I := val_l0 h (n % 41).toNat 0 FUEL FUEL [] (by omega) (by have := FUEL_big; omega) (by simp)
  unfold m_ticketlineref04_Value m_ticketlineref04_Value_a
  exact I
theorem known04 : m_ticketlinelaw04_known = some true := rfl
theorem strEq_refl' (x : ByteArray) : strEq x x = true := strEq_iff.2 rfl
theorem scriptKeys_true {n : Int} (h : 0 ≤ n ∧ n < 256) : m_ticketlinelaw04_ScriptKeys n = some true := by
  have w : IntKind.i64.wrap n = n := wI (by omega) (by omega)
  unfold m_ticketlinelaw04_ScriptKeys
  simp only [script_Key h, script_Value h, w, ref04_Key h, ref04_Value h, Option.bind_some, strEq_refl', if_true, known04]

/-- the number of a key -/
def keyN (s : ByteArray) : Int := ((bt s 0 - 97) * 16 + bt s 1 - 97) % 256
def keyedS (s : ByteArray) : Prop := keyS (keyN s) = s
instance (s : ByteArray) : Decidable (keyedS s) := by unfold keyedS; infer_instance
end Go.Ev.L.T4
