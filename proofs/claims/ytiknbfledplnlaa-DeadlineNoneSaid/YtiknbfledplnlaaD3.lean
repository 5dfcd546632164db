/- Deadlines: the law on nil and zero programs. -/
import Derived.Test.YtiknbfledplnlaaD2
import Derived.Test.YtiknbfledplnlaaMN33
set_option linter.unusedVariables false
set_option linter.unusedSimpArgs false
namespace Go.Ev.L
open Go Go.Ev Go.Ev.M
theorem deadlineNone_true : m_ticketlinelaw33_DeadlineNone = some true := by
  unfold m_ticketlinelaw33_DeadlineNone
  have hv : validL (1, (1, ())) = true := by decide
  have hc : m_deadline_NewCheck (1, (1, ())) 1 = some (some (newP 1), (0 : Int)) := by rw [dl_NewCheck, hv]; rfl
  rw [mem_New (by omega) (by omega)]
  simp only [Option.bind_some, bne_self_eq_false, Bool.false_eq_true, if_false, given33, hc, Bool.not_true, known33]
end Go.Ev.L
