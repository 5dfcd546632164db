/- Law 05: the next key, the separator. -/
import Derived.Test.YtefbnamginihkaaK1
set_option linter.unusedVariables false
set_option linter.unusedSimpArgs false
set_option maxRecDepth 10000
namespace Go.Ev.L
open Go Go.Ev Go.Ev.M
open Go.Lib (compareBytes)

theorem bsL_strOf (l : List Int) : bsL (strOf l) = l.map fun n => UInt8.ofNat n.toNat := by
  unfold bsL strOf; simp
theorem bytesOf_bsL (k : ByteArray) : bytesOf k = (bsL k).map fun b => (b.toNat : Int) := rfl
end Go.Ev.L
