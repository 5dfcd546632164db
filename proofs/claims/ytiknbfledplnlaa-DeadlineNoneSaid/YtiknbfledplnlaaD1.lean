/- Deadlines: the memory of a layout, a look at the tick, and what the laws of this seat compute. -/
import Derived.Test.YtiknbfledplnlaaA2
import Derived.Test.YtiknbfledplnlaaM33
set_option linter.unusedVariables false
set_option linter.unusedSimpArgs false
namespace Go.Ev.L
open Go Go.Ev Go.Ev.M

def validL (l : Int × (Int × Unit)) : Bool := decide (1 ≤ l.1) && decide (l.1 ≤ 511) && decide (1 ≤ l.2.1) && decide (l.2.1 ≤ 17)
theorem desc_valid (l : Int × (Int × Unit)) : m_descend_valid l = some (validL l) := by
  unfold m_descend_valid validL
  by_cases h1 : 1 ≤ l.1
  · by_cases h2 : l.1 ≤ 511
    · by_cases h3 : 1 ≤ l.2.1
      · simp [h1, h2, h3, show l.1 ≥ 1 from h1, show l.2.1 ≥ 1 from h3]
      · simp [h1, h2, h3, show l.1 ≥ 1 from h1]
    · simp [h1, h2, show l.1 ≥ 1 from h1]
  · simp [h1]
theorem validL_iff {l : Int × (Int × Unit)} : validL l = true ↔ 1 ≤ l.1 ∧ l.1 ≤ 511 ∧ 1 ≤ l.2.1 ∧ l.2.1 ≤ 17 := by
  unfold validL; simp [Bool.and_eq_true, decide_eq_true_eq]; constructor <;> intro h <;> omega
theorem desc_Words (l : Int × (Int × Unit)) : m_descend_Words l = some (if validL l = true then (16 + 128 * l.1 + 6 * l.2.1, (0 : Int)) else ((0 : Int), (2 : Int))) := by
  unfold m_descend_Words m_descend_nodes
  rw [desc_valid]
  cases h : validL l with
  | false => simp
  | true =>
    have h := validL_iff.1 h
    simp only [Option.bind_some, Bool.not_true, Bool.false_eq_true, if_false, if_true]
    rw [wI (x := 128 * l.1) (by omega) (by omega), wI (x := 16 + 128 * l.1) (by omega) (by omega), wI (x := l.2.1 * 2) (by omega) (by omega), wI (x := l.2.1 * 2 * 3) (by omega) (by omega), wI (by omega) (by omega)]
    congr 2; omega
theorem dl_allowed (l : Int × (Int × Unit)) (t : Int) : m_deadline_allowed l t = some (validL l && (decide (0 ≤ t) && decide (t ≤ 1099511627776))) := by
  unfold m_deadline_allowed
  rw [desc_Words]
  cases h : validL l with
  | false => simp
  | true =>
    by_cases e : t ≥ 0
    · simp [e, show 0 ≤ t from e]
    · simp [e, show ¬ 0 ≤ t from e]
theorem dl_NewCheck (l : Int × (Int × Unit)) (t : Int) : m_deadline_NewCheck l t = some (if (validL l && (decide (0 ≤ t) && decide (t ≤ 1099511627776))) = true then (some (true, (false, (t, ((0 : Int), ())))), (0 : Int)) else (none, (2 : Int))) := by
  unfold m_deadline_NewCheck
  rw [dl_allowed]
  simp only [Option.bind_some]
  generalize (validL l && (decide (0 ≤ t) && decide (t ≤ 1099511627776))) = b
  cases b <;> simp
abbrev newP (at' : Int) : Bool × (Bool × (Int × (Int × Unit))) := (true, (false, (at', ((0 : Int), ()))))
theorem known33 : m_ticketlinelaw33_known = some true := rfl
theorem given33 : m_ticketlinelaw33_given = some ((1 : Int), ((1 : Int), ())) := rfl
end Go.Ev.L
