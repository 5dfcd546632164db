/- A part of the proof of a statement of this seat: the plain models of the functions. No condition. -/
import Derived.Test.YtiknbfledplnlaaM14
import Derived.Test.YtiknbfledplnlaaMA
import Derived.Test.YtiknbfledplnlaaM33
set_option linter.unusedVariables false
namespace Go.Ev.M
open Go Go.Ev
def m_ticketlinelaw33_DeadlineNone : Option Bool :=
  Option.bind (m_mem_New (9 : Int)) fun r1 =>
  (match r1.1 with
  | none =>
  some false
  | some y2 =>
  if (r1.2 != (0 : Int)) = true then
   some false
  else
   Option.bind (m_ticketlinelaw33_given) fun r4 =>
   Option.bind (m_deadline_NewCheck r4 (1 : Int)) fun r5 =>
   (match r5.1 with
   | none =>
    some false
   | some y6 =>
    if (r5.2 != (0 : Int)) = true then
     some false
    else
     if (!y6.1) = true then
      Option.bind (m_ticketlinelaw33_given) fun r8 =>
      Option.bind (m_ticketlinelaw33_known) fun r9 =>
      some r9
     else
      Option.bind (m_ticketlinelaw33_given) fun r10 =>
      Option.bind (m_ticketlinelaw33_known) fun r11 =>
      some r11))
end Go.Ev.M
