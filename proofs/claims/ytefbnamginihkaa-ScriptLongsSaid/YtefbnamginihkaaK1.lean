/- Law 05: what two strings have in common; the order of strings. -/
import Derived.Test.YtefbnamginihkaaPgB
import Derived.Test.YtefbnamginihkaaM05
set_option linter.unusedVariables false
set_option linter.unusedSimpArgs false
set_option maxRecDepth 10000
namespace Go.Ev.L
open Go Go.Ev Go.Ev.M
open Go.Lib (compareBytes)

def bsL (s : ByteArray) : List UInt8 := s.data.toList
theorem bsL_inj {s t : ByteArray} (h : bsL s = bsL t) : s = t := by
  obtain ⟨⟨a⟩⟩ := s
  obtain ⟨⟨b⟩⟩ := t
  unfold bsL at h
  simpa using h
theorem bsL_append (s t : ByteArray) : bsL (s ++ t) = bsL s ++ bsL t := by
  unfold bsL
  rw [ByteArray.data_append]; simp
end Go.Ev.L
