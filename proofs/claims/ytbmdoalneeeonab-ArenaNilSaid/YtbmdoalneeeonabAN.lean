/- Arenas: the law on nil and zero arenas and memories. -/
import Derived.Test.YtbmdoalneeeonabA3
import Derived.Test.YtbmdoalneeeonabMN20
set_option linter.unusedVariables false
set_option linter.unusedSimpArgs false
namespace Go.Ev.L
open Go Go.Ev Go.Ev.M
theorem arenaNil_true (n : Int) : m_ticketlinelaw20_ArenaNil n = some true := by
  unfold m_ticketlinelaw20_ArenaNil
  simp only [show (⟨#[]⟩ : ByteArray) = eB from rfl, ref_Empty (level := 0) (low := eB) (high := eB) (by omega) (by omega) (by decide) (by decide), Option.bind_some, beq_page, if_true, known20]
end Go.Ev.L
