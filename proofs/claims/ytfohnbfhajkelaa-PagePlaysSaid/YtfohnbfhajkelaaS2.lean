/- Law 15: the answers for any page and any key are the reference's. -/
import Derived.Test.YtfohnbfhajkelaaS1
import Derived.KernelRfl
set_option linter.unusedVariables false
set_option linter.unusedSimpArgs false
set_option maxRecDepth 10000
namespace Go.Ev.L
open Go Go.Ev Go.Ev.M

theorem badS_bne {p : List Int} (h : srtB p = false) : (badS p != 0) = true := by
  have := badS_zero (p := p)
  rw [h] at this
  rw [bne, this]; rfl

theorem badS_ne {p : List Int} (h : srtB p = false) : badS p ≠ 0 := by
  have := badS_bne h
  simpa using this

end Go.Ev.L
