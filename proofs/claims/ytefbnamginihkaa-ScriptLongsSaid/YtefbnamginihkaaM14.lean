/- A part of the proof of a statement of this seat: the plain models of the functions. No condition. -/
import Derived.Test.YtefbnamginihkaaEvC
set_option linter.unusedVariables false
namespace Go.Ev.M
open Go Go.Ev
def m_ticketlineref14_Same_l0_b (s0 : ((List (ByteArray × (ByteArray × Unit))) → (List (ByteArray × (ByteArray × Unit))) → Int → Option Bool)) (u0_0 : (List (ByteArray × (ByteArray × Unit)))) (u0_1 : (List (ByteArray × (ByteArray × Unit)))) (u0_2 : Int) : Option Bool :=
  if (decide (u0_2 < (u0_0.length : Int))) = true then
  if (0 : Int) ≤ u0_2 then
   if u0_2 < (u0_0.length : Int) then
    if (0 : Int) ≤ u0_2 then
     if u0_2 < (u0_1.length : Int) then
      if (!(Ty.beq (.pair .str (.pair .str .nl)) (rd (.pair .str (.pair .str .nl)) u0_0 u0_2) (rd (.pair .str (.pair .str .nl)) u0_1 u0_2))) = true then
       some false
      else
       s0 u0_0 u0_1 (IntKind.i64.wrap (u0_2 + (1 : Int)))
     else none
    else none
   else none
  else none
  else
  some true
def m_ticketlineref14_Same_l0 (N : Nat) : Nat → (List (ByteArray × (ByteArray × Unit))) → (List (ByteArray × (ByteArray × Unit))) → Int → Option Bool
  | 0, _, _, _ => none
  | n + 1, u0_0, u0_1, u0_2 => m_ticketlineref14_Same_l0_b (m_ticketlineref14_Same_l0 N n) u0_0 u0_1 u0_2
end Go.Ev.M
