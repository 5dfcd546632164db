/- A part of the proof of a statement of this seat: the plain models of the functions. No condition. -/
import Derived.Test.YtbmdoalneeeonabM14
import Derived.Test.YtbmdoalneeeonabMA
import Derived.Test.YtbmdoalneeeonabM20
set_option linter.unusedVariables false
namespace Go.Ev.M
open Go Go.Ev
def m_ticketlinelaw20_ArenaNil (x0 : Int) : Option Bool :=
  Option.bind (m_ticketlineref14_Empty (0 : Int) (⟨#[]⟩ : ByteArray) (⟨#[]⟩ : ByteArray)) fun r1 =>
  if (Ty.beq (.arr 128 (.int .u64)) (List.replicate 128 (0 : Int)) (List.replicate 128 (0 : Int))) = true then
  Option.bind (m_ticketlineref14_Empty (0 : Int) (⟨#[]⟩ : ByteArray) (⟨#[]⟩ : ByteArray)) fun r8 =>
  if (Ty.beq (.arr 128 (.int .u64)) (List.replicate 128 (0 : Int)) (List.replicate 128 (0 : Int))) = true then
   Option.bind (m_ticketlinelaw20_known) fun r15 =>
   some r15
  else
   some false
  else
  some false
end Go.Ev.M
