/- Law 05: what two strings have in common; the order of strings. -/
import Derived.Test.YtmageoiakgcgmaaPgB
import Derived.Test.YtmageoiakgcgmaaM05
set_option linter.unusedVariables false
set_option linter.unusedSimpArgs false
set_option maxRecDepth 10000
namespace Go.Ev.L
open Go Go.Ev Go.Ev.M
open Go.Lib (compareBytes)

def bsL (s : ByteArray) : List UInt8 := s.data.toList
theorem bsL_length (s : ByteArray) : (bsL s).length = s.size := by simp [bsL]
theorem bsL_inj {s t : ByteArray} (h : bsL s = bsL t) : s = t := by
  obtain ⟨⟨a⟩⟩ := s
  obtain ⟨⟨b⟩⟩ := t
  unfold bsL at h
  simpa using h
theorem bsL_drop {s : ByteArray} {i : Nat} (h : i < s.size) : (bsL s).drop i = (bsL s).getD i 0 :: (bsL s).drop (i + 1) := by
  have h' : i < (bsL s).length := by rw [bsL_length]; exact h
  rw [List.drop_eq_getElem_cons h', List.getD_eq_getElem?_getD, List.getElem?_eq_getElem h']; rfl
theorem bt_bsL (s : ByteArray) (i : Nat) : bt s (i : Int) = (((bsL s).getD i 0).toNat : Int) := rfl
theorem bsL_extract (s : ByteArray) (n : Nat) : bsL (s.extract 0 n) = (bsL s).take n := by
  unfold bsL
  rw [ByteArray.data_extract]
  simp [Array.toList_extract, List.extract_eq_take_drop]
theorem bsL_append (s t : ByteArray) : bsL (s ++ t) = bsL s ++ bsL t := by
  unfold bsL
  rw [ByteArray.data_append]; simp
theorem strLt_bl (a b : ByteArray) : strLt a b = bl (bsL a) (bsL b) := by
  unfold strLt
  rw [ByteArray.toList_eq, ByteArray.toList_eq]; rfl
theorem cmpI_bytes (a b : ByteArray) : cmpI a b = compareBytes (bsL a) (bsL b) := by
  rw [compare_bl]; unfold cmpI; rw [strLt_bl, strLt_bl]

/-- how many bytes are the same at the front -/
def cpL : List UInt8 → List UInt8 → Nat
  | a :: x, b :: y => if a = b then cpL x y + 1 else 0
  | _, _ => 0
theorem cpL_nil_right (x : List UInt8) : cpL x [] = 0 := by cases x <;> rfl
theorem cpL_comm : ∀ x y, cpL x y = cpL y x := by
  intro x
  induction x with
  | nil => intro y; rw [cpL_nil_right]; rfl
  | cons a x ih =>
    intro y
    cases y with
    | nil => rfl
    | cons b y =>
      simp only [cpL, ih y]
      by_cases h : a = b
      · rw [if_pos h, if_pos h.symm]
      · rw [if_neg h, if_neg (fun e => h e.symm)]
theorem cpL_iff : ∀ (x y : List UInt8) (k : Nat), k ≤ cpL x y ↔ k ≤ x.length ∧ k ≤ y.length ∧ x.take k = y.take k := by
  intro x
  induction x with
  | nil => intro y k; simp only [cpL, List.length_nil]; constructor
           · intro h; have : k = 0 := by omega
             subst this; simp
           · intro h; omega
  | cons a x ih =>
    intro y k
    cases y with
    | nil => simp only [cpL, List.length_nil]; constructor
             · intro h; have : k = 0 := by omega
               subst this; simp
             · intro h; omega
    | cons b y =>
      cases k with
      | zero => simp
      | succ k =>
        simp only [cpL, List.length_cons, List.take_succ_cons, List.cons.injEq]
        by_cases h : a = b
        · rw [if_pos h]
          have := ih y k
          constructor
          · intro hk; have := this.1 (by omega); exact ⟨by omega, by omega, h, this.2.2⟩
          · rintro ⟨h1, h2, _, h3⟩; have := this.2 ⟨by omega, by omega, h3⟩; omega
        · rw [if_neg h]
          constructor
          · intro hk; omega
          · rintro ⟨_, _, h1, _⟩; exact absurd h1 h
theorem cpL_le (x y : List UInt8) : cpL x y ≤ x.length ∧ cpL x y ≤ y.length := by
  have := (cpL_iff x y (cpL x y)).1 (Nat.le_refl _)
  exact ⟨this.1, this.2.1⟩

theorem prefix_l0 {a b : ByteArray} (ha : a.size ≤ 100000) : ∀ (m n N i : Nat), i + m = a.size → m < n →
    m_keys_Prefix_l0 N n a b i = some ((i + cpL ((bsL a).drop i) ((bsL b).drop i) : Nat) : Int) := by
  intro m
  induction m with
  | zero =>
    intro n N i hm hn
    obtain ⟨n, rfl⟩ : ∃ q, n = q + 1 := ⟨n - 1, by omega⟩
    have hd : (bsL a).drop i = [] := List.drop_eq_nil_of_le (by rw [bsL_length]; omega)
    have hc : ¬ (i : Int) < (a.size : Int) := by omega
    simp only [m_keys_Prefix_l0, m_keys_Prefix_l0_b, hc, decide_false, Bool.false_eq_true, if_false, hd, cpL, Nat.add_zero]
  | succ m ih =>
    intro n N i hm hn
    obtain ⟨n, rfl⟩ : ∃ q, n = q + 1 := ⟨n - 1, by omega⟩
    have IH := ih n N (i + 1) (by omega) (by omega)
    have hc : (i : Int) < (a.size : Int) := by omega
    have w : IntKind.i64.wrap ((i : Int) + 1) = ((i + 1 : Nat) : Int) := by rw [wI (by omega) (by omega)]; omega
    by_cases hb : i < b.size
    · have hb' : (i : Int) < (b.size : Int) := by omega
      have d1 := bsL_drop (s := a) (i := i) (by omega)
      have d2 := bsL_drop hb
      simp only [m_keys_Prefix_l0, m_keys_Prefix_l0_b, hc, hb', decide_true, if_true, Int.natCast_nonneg, w, IH, d1, d2, cpL, bt_bsL]
      by_cases e : (bsL a).getD i 0 = (bsL b).getD i 0
      · rw [if_pos (by rw [e]; exact beq_self_eq_true _), if_pos e]; congr 1; omega
      · rw [if_neg (by intro h; rw [beq_iff_eq] at h; exact e (UInt8.toNat_inj.1 (by omega))), if_neg e]; simp
    · have hb' : ¬ (i : Int) < (b.size : Int) := by omega
      have hd : (bsL b).drop i = [] := List.drop_eq_nil_of_le (by rw [bsL_length]; omega)
      simp only [m_keys_Prefix_l0, m_keys_Prefix_l0_b, hc, hb', decide_true, if_true, decide_false, Bool.false_eq_true, if_false, hd, cpL_nil_right, Nat.add_zero]
def cpS (a b : ByteArray) : Nat := cpL (bsL a) (bsL b)
theorem cpS_le (a b : ByteArray) : cpS a b ≤ a.size ∧ cpS a b ≤ b.size := by
  have := cpL_le (bsL a) (bsL b)
  rw [bsL_length, bsL_length] at this; exact this
theorem cpS_comm (a b : ByteArray) : cpS a b = cpS b a := cpL_comm _ _
theorem keys_Prefix {a b : ByteArray} (ha : a.size ≤ 100000) : m_keys_Prefix a b = some (cpS a b : Int) := by
  have := prefix_l0 (b := b) ha a.size FUEL FUEL 0 (by omega) (by have := FUEL_big; omega)
  unfold m_keys_Prefix m_keys_Prefix_a
  refine Eq.trans (by exact_mod_cast this) ?_
  simp [cpS]

theorem compare_l0 {a b : ByteArray} (ha : a.size ≤ 100000) : ∀ (m n N i : Nat), i + m = a.size → m < n → i ≤ b.size →
    m_ticketlineref05_Compare_l0 N n a b i = some (compareBytes ((bsL a).drop i) ((bsL b).drop i)) := by
  have fin : ∀ (i : Nat), i ≤ a.size → (i = a.size ∨ b.size ≤ i) → i ≤ b.size → (if (decide ((a.size : Int) < (b.size : Int))) = true then some (-1 : Int) else if (decide ((a.size : Int) > (b.size : Int))) = true then some (1 : Int) else some (0 : Int)) = some (compareBytes ((bsL a).drop i) ((bsL b).drop i)) := by
    intro i h1 h2 h3
    by_cases e1 : i < a.size
    · have e2 : i = b.size := by omega
      rw [bsL_drop e1, List.drop_eq_nil_of_le (show (bsL b).length ≤ i by rw [bsL_length]; omega)]
      simp [compareBytes, show ¬ (a.size : Int) < b.size by omega, show (a.size : Int) > b.size by omega]
    · rw [List.drop_eq_nil_of_le (show (bsL a).length ≤ i by rw [bsL_length]; omega)]
      by_cases e2 : i < b.size
      · rw [bsL_drop e2]
        simp [compareBytes, show (a.size : Int) < b.size by omega]
      · rw [List.drop_eq_nil_of_le (show (bsL b).length ≤ i by rw [bsL_length]; omega)]
        simp [compareBytes, show ¬ (a.size : Int) < b.size by omega, show ¬ (a.size : Int) > b.size by omega]
  intro m
  induction m with
  | zero =>
    intro n N i hm hn hb
    obtain ⟨n, rfl⟩ : ∃ q, n = q + 1 := ⟨n - 1, by omega⟩
    have hc : ¬ (i : Int) < (a.size : Int) := by omega
    have := fin i (by omega) (by omega) hb
    simp only [m_ticketlineref05_Compare_l0, m_ticketlineref05_Compare_l0_b, hc, decide_false, Bool.false_eq_true, if_false] at this ⊢
    exact this
  | succ m ih =>
    intro n N i hm hn hb
    obtain ⟨n, rfl⟩ : ∃ q, n = q + 1 := ⟨n - 1, by omega⟩
    have hc : (i : Int) < (a.size : Int) := by omega
    have w : IntKind.i64.wrap ((i : Int) + 1) = ((i + 1 : Nat) : Int) := by rw [wI (by omega) (by omega)]; omega
    by_cases hb2 : i < b.size
    · have IH := ih n N (i + 1) (by omega) (by omega) (by omega)
      have hb' : (i : Int) < (b.size : Int) := by omega
      have d1 := bsL_drop (s := a) (i := i) (by omega)
      have d2 := bsL_drop hb2
      obtain ⟨x, ex⟩ : ∃ x, (bsL a).getD i 0 = x := ⟨_, rfl⟩
      obtain ⟨y, ey⟩ : ∃ y, (bsL b).getD i 0 = y := ⟨_, rfl⟩
      simp only [m_ticketlineref05_Compare_l0, m_ticketlineref05_Compare_l0_b, hc, hb', decide_true, if_true, Int.natCast_nonneg, w, IH, d1, d2, compareBytes, bt_bsL, ex, ey]
      have hx : ((x.toNat : Int) < (y.toNat : Int)) ↔ x < y := by rw [UInt8.lt_iff_toNat_lt]; omega
      have hy : ((x.toNat : Int) > (y.toNat : Int)) ↔ y < x := by rw [UInt8.lt_iff_toNat_lt]; omega
      simp only [hx, hy, decide_eq_true_eq]
      by_cases c1 : x < y
      · simp only [c1, if_true]
      · by_cases c2 : y < x
        · simp only [c1, c2, if_false, if_true]
        · simp only [c1, c2, if_false]
    · have hb' : ¬ (i : Int) < (b.size : Int) := by omega
      have := fin i (by omega) (by omega) hb
      simp only [m_ticketlineref05_Compare_l0, m_ticketlineref05_Compare_l0_b, hc, hb', decide_true, if_true, decide_false, Bool.false_eq_true, if_false] at this ⊢
      exact this
theorem ref05_Compare {a b : ByteArray} (ha : a.size ≤ 100000) : m_ticketlineref05_Compare a b = some (cmpI a b) := by
  have := compare_l0 (b := b) ha a.size FUEL FUEL 0 (by omega) (by have := FUEL_big; omega) (Nat.zero_le _)
  unfold m_ticketlineref05_Compare m_ticketlineref05_Compare_a
  rw [cmpI_bytes]
  exact_mod_cast this

theorem known05 : m_ticketlinelaw05_known = some true := rfl
theorem validKey (a : ByteArray) : m_keys_ValidKey a = some (decide (1 ≤ a.size ∧ a.size ≤ 24)) := by
  unfold m_keys_ValidKey
  by_cases h : (a.size : Int) ≥ 1
  · simp only [h, decide_true, if_true]; congr 1; rw [decide_eq_decide]; omega
  · simp only [h, decide_false, Bool.false_eq_true, if_false]; congr 1; symm; rw [decide_eq_false_iff_not]; omega
theorem ref05_Key (a : ByteArray) : m_ticketlineref05_Key a = some (decide (1 ≤ a.size ∧ a.size ≤ 24)) := by
  unfold m_ticketlineref05_Key
  by_cases h : (a.size : Int) > 0
  · simp only [h, decide_true, if_true]; congr 1; rw [decide_eq_decide]; omega
  · simp only [h, decide_false, Bool.false_eq_true, if_false]; congr 1; symm; rw [decide_eq_false_iff_not]; omega
theorem hasPrefix (x y : ByteArray) : m_strings_HasPrefix x y = some (decide (y.size ≤ x.size ∧ (bsL x).take y.size = bsL y)) := by
  unfold m_strings_HasPrefix m_internal_stringslite_HasPrefix
  by_cases h : y.size ≤ x.size
  · have h1 : (x.size : Int) ≥ (y.size : Int) := by omega
    simp only [h1, decide_true, if_true, Int.natCast_nonneg, show (y.size : Int) ≤ (x.size : Int) by omega, Option.bind_some, Int.toNat_natCast, h, true_and]
    congr 1
    have : (strEq (x.extract 0 y.size) y = true) ↔ (bsL x).take y.size = bsL y := by
      rw [strEq_iff, ← bsL_extract]
      exact ⟨fun h => by rw [h], bsL_inj⟩
    cases hs : strEq (x.extract 0 y.size) y with
    | true => rw [hs] at this; simpa using this
    | false => rw [hs] at this; simpa using this
  · have h1 : ¬ (x.size : Int) ≥ (y.size : Int) := by omega
    simp only [h1, decide_false, Bool.false_eq_true, if_false, Option.bind_some, h, false_and]

theorem orders_l0 {a b : ByteArray} (ha : a.size ≤ 100) (hb : b.size ≤ 100) : ∀ (m n N i : Nat), i + m = a.size → m < n → i ≤ cpS a b →
    m_ticketlinelaw05_KeysOrders_l0 N n a b i = some true := by
  have hcl := cpS_le a b
  intro m
  induction m with
  | zero =>
    intro n N i hm hn hi
    obtain ⟨n, rfl⟩ : ∃ q, n = q + 1 := ⟨n - 1, by omega⟩
    have hc : ¬ (i : Int) < (a.size : Int) := by omega
    have e : cpS a b = i := by omega
    have e2 : cpS b a = i := by rw [cpS_comm]; exact e
    have vv : m_keys_ValidValue a = m_ticketlineref05_Value a := rfl
    have vr : m_ticketlineref05_Value a = some (decide ((a.size : Int) ≤ 40)) := rfl
    simp only [m_ticketlinelaw05_KeysOrders_l0, m_ticketlinelaw05_KeysOrders_l0_b, hc, decide_false, Bool.false_eq_true, if_false, validKey, ref05_Key, vv, vr, Option.bind_some, beq_self_eq_true, if_true,
      keys_Compare, ref05_Compare (show a.size ≤ 100000 by omega), ref05_Compare (show b.size ≤ 100000 by omega), keys_Prefix (show a.size ≤ 100000 by omega), keys_Prefix (show b.size ≤ 100000 by omega), e, e2, known05]
  | succ m ih =>
    intro n N i hm hn hi
    obtain ⟨n, rfl⟩ : ∃ q, n = q + 1 := ⟨n - 1, by omega⟩
    have hc : (i : Int) < (a.size : Int) := by omega
    have w : IntKind.i64.wrap ((i : Int) + 1) = ((i + 1 : Nat) : Int) := by rw [wI (by omega) (by omega)]; omega
    have vv : m_keys_ValidValue a = m_ticketlineref05_Value a := rfl
    have vr : m_ticketlineref05_Value a = some (decide ((a.size : Int) ≤ 40)) := rfl
    have hsz : (a.extract 0 (i + 1)).size = i + 1 := by rw [← bsL_length, bsL_extract, List.length_take, bsL_length]; omega
    have hp : (decide ((a.extract 0 (i + 1)).size ≤ b.size ∧ (bsL b).take (a.extract 0 (i + 1)).size = bsL (a.extract 0 (i + 1)))) = decide (i + 1 ≤ cpS a b) := by
      rw [hsz, bsL_extract, decide_eq_decide]
      unfold cpS
      rw [cpL_iff, bsL_length, bsL_length]
      constructor
      · rintro ⟨h1, h2⟩; exact ⟨by omega, h1, h2.symm⟩
      · rintro ⟨h1, h2, h3⟩; exact ⟨h2, h3.symm⟩
    simp only [m_ticketlinelaw05_KeysOrders_l0, m_ticketlinelaw05_KeysOrders_l0_b, hc, decide_true, if_true, w, Int.natCast_nonneg, show ((i + 1 : Nat) : Int) ≤ (a.size : Int) by omega, Int.toNat_natCast, hasPrefix, hp, Option.bind_some]
    by_cases h1 : i + 1 ≤ cpS a b
    · simp only [h1, decide_true, if_true, ih n N (i + 1) (by omega) (by omega) h1]
    · have e : cpS a b = i := by omega
      have e2 : cpS b a = i := by rw [cpS_comm]; exact e
      simp only [h1, show ¬ i + 1 ≤ i by omega, decide_false, Bool.false_eq_true, if_false, validKey, ref05_Key, vv, vr, Option.bind_some, beq_self_eq_true, if_true,
        keys_Compare, ref05_Compare (show a.size ≤ 100000 by omega), ref05_Compare (show b.size ≤ 100000 by omega), keys_Prefix (show a.size ≤ 100000 by omega), keys_Prefix (show b.size ≤ 100000 by omega), e, e2, known05]
theorem keysOrders_true (a b : ByteArray) : m_ticketlinelaw05_KeysOrders a b = some true := by
  unfold m_ticketlinelaw05_KeysOrders m_ticketlinelaw05_KeysOrders_a
  by_cases h1 : (a.size : Int) > 100
  · simp only [h1, decide_true, if_true, known05, Option.bind_some]
  by_cases h2 : (b.size : Int) > 100
  · simp only [h1, h2, decide_true, if_true, known05, Option.bind_some, decide_false, Bool.false_eq_true, if_false]
  simp only [h1, h2, decide_false, Bool.false_eq_true, if_false]
  exact orders_l0 (by omega) (by omega) a.size FUEL FUEL 0 (by omega) (by have := FUEL_big; omega) (Nat.zero_le _)
end Go.Ev.L
