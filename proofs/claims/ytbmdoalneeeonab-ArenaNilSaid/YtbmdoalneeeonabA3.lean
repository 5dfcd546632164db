/- Arenas: how many pages are free, used and deferred, the pages' words, and that an arena is like the reference's with the same words. -/
import Derived.Test.YtbmdoalneeeonabA2
import Derived.Test.YtbmdoalneeeonabM20
set_option linter.unusedVariables false
set_option linter.unusedSimpArgs false
namespace Go.Ev.L
open Go Go.Ev Go.Ev.M

theorem beq_page (l : List Int) : Ty.beq (.arr 128 (.int .u64)) l l = true := by
  simp [Ty.beq]
theorem known20 : m_ticketlinelaw20_known = some true := rfl
end Go.Ev.L
