/- Seat 04: the operations of bytes; ScriptParses. -/
import Derived.Test.YtefbnamginihkaaT2
set_option linter.unusedVariables false
set_option linter.unusedSimpArgs false
set_option maxRecDepth 10000
namespace Go.Ev.L.T4
open Go Go.Ev Go.Ev.M Go.Ev.L

abbrev tOp : Ty := .pair (.int .i64) (.pair (.int .i64) (.pair (.int .i64) (.pair (.int .i64) (.pair .str (.pair .str (.pair .str (.pair (.int .i64) .nl)))))))
set_option synthInstance.maxSize 2000 in
instance instOp4 : DecidableEq Op4 := fun a b => inferInstanceAs (Decidable (a = b))
theorem str_toList {x y : ByteArray} : x.toList = y.toList ↔ x = y := ⟨fun h => strEq_iff.1 (by unfold strEq; exact beq_iff_eq.2 h), fun h => by rw [h]⟩
theorem op_beq {a b : Op4} : Ty.beq tOp a b = true ↔ a = b := by
  obtain ⟨a1, a2, a3, a4, a5, a6, a7, a8, au⟩ := a
  obtain ⟨b1, b2, b3, b4, b5, b6, b7, b8, bu⟩ := b
  simp [Ty.beq, Prod.ext_iff, str_toList]
theorem op_beq_refl (a : Op4) : Ty.beq tOp a a = true := op_beq.2 rfl
theorem op_beq_false {a b : Op4} (h : a ≠ b) : Ty.beq tOp a b = false := by
  cases e : Ty.beq tOp a b with
  | false => rfl
  | true => exact absurd (op_beq.1 e) h
theorem rd_op {l : List Op4} {i : Nat} (h : i < l.length) : rd tOp l (i : Int) = l[i] := by
  show l.getD (i : Int).toNat _ = _
  rw [Int.toNat_natCast, List.getD_eq_getElem?_getD, List.getElem?_eq_getElem h]; rfl
theorem same_l0 {a b : List Op4} (hl : a.length = b.length) (ha : a.length ≤ 100000) : ∀ (m n N i : Nat), i + m = a.length → m < n →
    m_ticketlineref04_Same_l0 N n a b i = some (decide (a.drop i = b.drop i)) := by
  intro m
  induction m with
  | zero =>
    intro n N i hm hn
    obtain ⟨n, rfl⟩ : ∃ q, n = q + 1 := ⟨n - 1, by omega⟩
    have e : a.drop i = b.drop i := by rw [List.drop_of_length_le (by omega), List.drop_of_length_le (by omega)]
    simp only [m_ticketlineref04_Same_l0, m_ticketlineref04_Same_l0_b, show ¬ (i : Int) < (a.length : Int) by omega, decide_false, Bool.false_eq_true, if_false, decide_eq_true e]
  | succ m ih =>
    intro n N i hm hn
    obtain ⟨n, rfl⟩ : ∃ q, n = q + 1 := ⟨n - 1, by omega⟩
    have w : IntKind.i64.wrap ((i : Int) + 1) = ((i + 1 : Nat) : Int) := by rw [wI (by omega) (by omega)]; omega
    have I := ih n N (i + 1) (by omega) (by omega)
    have d1 : a.drop i = a[i] :: a.drop (i + 1) := List.drop_eq_getElem_cons (by omega)
    have d2 : b.drop i = b[i] :: b.drop (i + 1) := List.drop_eq_getElem_cons (by omega)
    have r1 := rd_op (l := a) (i := i) (by omega)
    have r2 := rd_op (l := b) (i := i) (by omega)
    by_cases c : a[i] = b[i]
    · have c2 : Ty.beq tOp a[i] b[i] = true := op_beq.2 c
      have e : decide (a.drop i = b.drop i) = decide (a.drop (i + 1) = b.drop (i + 1)) := decide_eq_decide.2 (by rw [d1, d2]; exact ⟨fun h => (List.cons.inj h).2, fun h => by rw [c, h]⟩)
      simp only [m_ticketlineref04_Same_l0, m_ticketlineref04_Same_l0_b, show (i : Int) < (a.length : Int) by omega, show (i : Int) < (b.length : Int) by omega, decide_true, if_true, Int.natCast_nonneg, r1, r2, c2, Bool.not_true, Bool.false_eq_true, if_false, w, I, e]
    · have c2 : Ty.beq tOp a[i] b[i] = false := op_beq_false c
      have e : decide (a.drop i = b.drop i) = false := decide_eq_false (by rw [d1, d2]; exact fun h => c (List.cons.inj h).1)
      simp only [m_ticketlineref04_Same_l0, m_ticketlineref04_Same_l0_b, show (i : Int) < (a.length : Int) by omega, show (i : Int) < (b.length : Int) by omega, decide_true, if_true, Int.natCast_nonneg, r1, r2, c2, Bool.not_false, e]
theorem ref04_Same {a b : List Op4} (ha : a.length ≤ 100000) : m_ticketlineref04_Same a b = some (decide (a = b)) := by
  unfold m_ticketlineref04_Same m_ticketlineref04_Same_a
  by_cases c : a.length = b.length
  · have c2 : ((a.length : Int) != (b.length : Int)) = false := by simp [c]
    have L := same_l0 c ha a.length FUEL FUEL 0 (by omega) (by have := FUEL_big; omega)
    simp only [c2, Bool.false_eq_true, if_false]
    exact L
  · have c2 : ((a.length : Int) != (b.length : Int)) = true := by simp; omega
    have e : decide (a = b) = false := decide_eq_false fun h => c (by rw [h])
    simp only [c2, if_true, e]
/-- the operations of bytes -/
def parseL (t : Int) : Nat → List Int → List Op4
  | 0, _ => []
  | n + 1, b => if b = [] then [] else (nextS b t).1 :: parseL t n (b.drop (nextS b t).2)
def parseS (t : Int) (b : List Int) : List Op4 := parseL t b.length b
theorem startS_n (th p a c d : Int) : 2 ≤ (startS th p a c d).2 ∧ (startS th p a c d).2 ≤ 5 := by
  unfold startS; dsimp only
  repeat' split
  all_goals (dsimp only; omega)
theorem opS_n (t x p a c d : Int) : 2 ≤ (opS t x p a c d).2 ∧ (opS t x p a c d).2 ≤ 5 := by
  unfold opS
  repeat' split
  all_goals first | exact startS_n _ _ _ _ _ | (dsimp only; omega)
theorem nextS_n (b : List Int) (t : Int) : 2 ≤ (nextS b t).2 ∧ (nextS b t).2 ≤ 5 := opS_n _ _ _ _ _ _
theorem parseL_fuel {t : Int} : ∀ (n : Nat) (b : List Int), b.length ≤ n → ∀ m, b.length ≤ m → parseL t n b = parseL t m b := by
  intro n
  induction n with
  | zero =>
    intro b hb m hm
    have : b = [] := List.length_eq_zero_iff.1 (by omega)
    subst this
    cases m with
    | zero => rfl
    | succ m => simp [parseL]
  | succ n ih =>
    intro b hb m hm
    by_cases c : b = []
    · subst c
      cases m with
      | zero => simp [parseL]
      | succ m => simp [parseL]
    · have hlen : 1 ≤ b.length := by cases b with | nil => exact absurd rfl c | cons a l => simp
      obtain ⟨m, rfl⟩ : ∃ q, m = q + 1 := ⟨m - 1, by omega⟩
      have := nextS_n b t
      have hd : (b.drop (nextS b t).2).length + 2 ≤ b.length + 1 := by rw [List.length_drop]; omega
      simp only [parseL, c, if_false]
      rw [ih _ (by omega) m (by omega)]
theorem parseS_nil (t : Int) : parseS t [] = [] := rfl
theorem parseS_cons {t : Int} {b : List Int} (h : b ≠ []) : parseS t b = (nextS b t).1 :: parseS t (b.drop (nextS b t).2) := by
  have hlen : 1 ≤ b.length := by cases b with | nil => exact absurd rfl h | cons a l => simp
  have := nextS_n b t
  unfold parseS
  conv => lhs; rw [parseL_fuel b.length b (Nat.le_refl _) (b.length - 1 + 1) (by omega)]
  simp only [parseL, h, if_false]
  rw [parseL_fuel _ _ _ _ (Nat.le_refl _)]
  rw [List.length_drop]; omega
theorem parseS_length {t : Int} : ∀ (n : Nat) (b : List Int), b.length ≤ n → (parseS t b).length ≤ b.length := by
  intro n
  induction n with
  | zero =>
    intro b hb
    have : b = [] := List.length_eq_zero_iff.1 (by omega)
    subst this; simp [parseS_nil]
  | succ n ih =>
    intro b hb
    by_cases c : b = []
    · subst c; simp [parseS_nil]
    · have hlen : 1 ≤ b.length := by cases b with | nil => exact absurd rfl c | cons a l => simp
      have := nextS_n b t
      rw [parseS_cons c]
      have := ih (b.drop (nextS b t).2) (by rw [List.length_drop]; omega)
      rw [List.length_drop] at this
      simp only [List.length_cons]; omega
theorem RB.drop {b : List Int} (h : RB b) (n : Nat) : RB (b.drop n) := fun x hx => h x (List.mem_of_mem_drop hx)
theorem win_rest (b : List Int) (n : Nat) : win b (mn (n : Int) (b.length : Int)) ((b.length : Int) - mn (n : Int) (b.length : Int)) = b.drop n := by
  unfold win mn
  by_cases c : (n : Int) ≤ (b.length : Int)
  · rw [if_neg (show ¬ (b.length : Int) < n by omega)]
    rw [Int.toNat_natCast, List.take_of_length_le (by rw [List.length_drop]; omega)]
  · rw [if_pos (show (b.length : Int) < n by omega)]
    rw [Int.toNat_natCast, List.drop_of_length_le (Nat.le_refl _), List.drop_of_length_le (by omega)]; simp
theorem mn_le (n m : Nat) : 0 ≤ mn (n : Int) (m : Int) ∧ mn (n : Int) (m : Int) ≤ m := by unfold mn; split <;> omega
theorem fits88 {n m : Nat} (h : n + m ≤ 1000000) : fits (n + m) 88 := by unfold fits; omega
theorem parse_l0 {t : Int} (ht : 1 ≤ t ∧ t ≤ 64) : ∀ (m n N : Nat) (b : List Int) (out : List Op4), RB b → b.length ≤ m → m < n → out.length + b.length ≤ 100000 →
    m_script_Parse_l0 N n b t out = some (out ++ parseS t b, 0) := by
  intro m
  induction m with
  | zero =>
    intro n N b out hb hm hn ho
    obtain ⟨n, rfl⟩ : ∃ q, n = q + 1 := ⟨n - 1, by omega⟩
    have : b = [] := List.length_eq_zero_iff.1 (by omega)
    subst this
    simp [m_script_Parse_l0, m_script_Parse_l0_b, parseS_nil]
  | succ m ih =>
    intro n N b out hb hm hn ho
    obtain ⟨n, rfl⟩ : ∃ q, n = q + 1 := ⟨n - 1, by omega⟩
    by_cases c : b = []
    · subst c; simp [m_script_Parse_l0, m_script_Parse_l0_b, parseS_nil]
    · have hlen : 1 ≤ b.length := by cases b with | nil => exact absurd rfl c | cons a l => simp
      have hN := script_Next hb ht c
      have h2 := nextS_n b t
      have hm2 := mn_le (nextS b t).2 b.length
      have I := ih n N (b.drop (nextS b t).2) (out ++ [(nextS b t).1]) (hb.drop _) (by rw [List.length_drop]; omega) (by omega) (by rw [List.length_append, List.length_drop]; simp; omega)
      have f : fits (out.length + List.length ([(nextS b t).1] : List Op4)) 88 := fits88 (by simp; omega)
      simp only [m_script_Parse_l0, m_script_Parse_l0_b, show (b.length : Int) > 0 by omega, decide_true, if_true, hN, Option.bind_some, bne_self_eq_false, Bool.false_eq_true, if_false, if_pos f, Int.natCast_nonneg, Int.le_refl, hm2.1, hm2.2, win_rest, I]
      rw [parseS_cons c, List.append_assoc]; rfl
theorem rparse_l0 {t : Int} (ht : 1 ≤ t ∧ t ≤ 64) : ∀ (m n N : Nat) (b : List Int) (out : List Op4), RB b → b.length ≤ m → m < n → out.length + b.length ≤ 100000 →
    m_ticketlineref04_Parse_l0 N n b t out = some (out ++ parseS t b) := by
  intro m
  induction m with
  | zero =>
    intro n N b out hb hm hn ho
    obtain ⟨n, rfl⟩ : ∃ q, n = q + 1 := ⟨n - 1, by omega⟩
    have : b = [] := List.length_eq_zero_iff.1 (by omega)
    subst this
    simp [m_ticketlineref04_Parse_l0, m_ticketlineref04_Parse_l0_b, parseS_nil]
  | succ m ih =>
    intro n N b out hb hm hn ho
    obtain ⟨n, rfl⟩ : ∃ q, n = q + 1 := ⟨n - 1, by omega⟩
    by_cases c : b = []
    · subst c; simp [m_ticketlineref04_Parse_l0, m_ticketlineref04_Parse_l0_b, parseS_nil]
    · have hlen : 1 ≤ b.length := by cases b with | nil => exact absurd rfl c | cons a l => simp
      have hN := ref04_Next hb ht
      have h2 := nextS_n b t
      have hm2 := mn_le (nextS b t).2 b.length
      have I := ih n N (b.drop (nextS b t).2) (out ++ [(nextS b t).1]) (hb.drop _) (by rw [List.length_drop]; omega) (by omega) (by rw [List.length_append, List.length_drop]; simp; omega)
      have f : fits (out.length + List.length ([(nextS b t).1] : List Op4)) 88 := fits88 (by simp; omega)
      simp only [m_ticketlineref04_Parse_l0, m_ticketlineref04_Parse_l0_b, show (b.length : Int) > 0 by omega, decide_true, if_true, hN, Option.bind_some, if_pos f, Int.natCast_nonneg, Int.le_refl, hm2.1, hm2.2, win_rest, I]
      rw [parseS_cons c, List.append_assoc]; rfl
theorem script_Parse {b : List Int} (hb : RB b) (t : Int) (hl : b.length ≤ 50000) : m_script_Parse b t = some (if t < 1 ∨ 64 < t then ([], 2) else if 4096 < b.length then ([], 5) else (parseS t b, 0)) := by
  unfold m_script_Parse m_script_Parse_a
  by_cases c1 : t < 1
  · simp only [c1, decide_true, if_true, true_or]
  by_cases c2 : t > 64
  · simp only [c1, c2, decide_true, decide_false, Bool.false_eq_true, if_true, if_false, or_true, show 64 < t from c2, or_true]
  by_cases c3 : (b.length : Int) > 4096
  · simp only [c1, c2, c3, decide_true, decide_false, Bool.false_eq_true, if_true, if_false, show ¬ 64 < t from c2, or_self, show 4096 < b.length by omega]
  · have L := parse_l0 (t := t) (by omega) b.length FUEL FUEL b [] hb (Nat.le_refl _) (by have := FUEL_big; omega) (by simp; omega)
    simp only [c1, c2, c3, decide_false, Bool.false_eq_true, if_false, show ¬ 64 < t from c2, or_self, show ¬ 4096 < b.length by omega]
    exact L
theorem ref04_Parse {b : List Int} (hb : RB b) {t : Int} (ht : 1 ≤ t ∧ t ≤ 64) (hl : b.length ≤ 50000) : m_ticketlineref04_Parse b t = some (parseS t b) :=
  rparse_l0 ht b.length FUEL FUEL b [] hb (Nat.le_refl _) (by have := FUEL_big; omega) (by simp; omega)
theorem law_parses {b : List Int} (hb : RB b) {t : Int} (hl : b.length ≤ 50000) {e : Int} {l : List Op4} (h : (if t < 1 ∨ 64 < t then ([], 2) else if 4096 < b.length then ([], 5) else (parseS t b, 0)) = (l, e)) : m_ticketlinelaw04_parses b t e l = some true := by
  have hP := script_Parse hb t hl
  rw [h] at hP
  have hll : l.length ≤ 100000 := by
    have := parseS_length (t := t) b.length b (Nat.le_refl _)
    split at h
    · cases h; simp
    · split at h
      · cases h; simp
      · cases h; omega
  unfold m_ticketlinelaw04_parses
  simp only [hP, Option.bind_some, ref04_Same hll, decide_true, if_true, beq_self_eq_true]
end Go.Ev.L.T4
