/- Seat 04: the reference looks for the shortest bytes. -/
import Derived.Test.YtefbnamginihkaaT5
set_option linter.unusedVariables false
set_option linter.unusedSimpArgs false
set_option maxRecDepth 10000
namespace Go.Ev.L.T4
open Go Go.Ev Go.Ev.M Go.Ev.L

section
variable (k th n v : Int) (key val old : ByteArray) (tk : Int)
abbrev S0 := Int → Int → Int → Int → Int → ByteArray → ByteArray → ByteArray → Int → Option (List Int × Bool)
abbrev S1 := Int → Int → Int → Int → Int → Int → ByteArray → ByteArray → ByteArray → Int → Option (List Int × Bool)
def Found (N : Nat) (x p : Int) (r : Option (List Int × Bool)) : Prop := ∃ (s0 : S0) (s1 : S1) (a2 a3 a4 : Int) (z1 z2 z3 : ByteArray) (a5 : Int), r = m_ticketlineref04_Bytes_l2 N s0 s1 N (strOf (needS v)) 0 k th n v key val old tk k a2 a3 a4 z1 z2 z3 a5 [x, p]
end
end Go.Ev.L.T4
