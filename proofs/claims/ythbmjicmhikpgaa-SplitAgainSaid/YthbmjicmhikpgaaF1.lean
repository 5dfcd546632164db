/- Fences and right links: what the program and the reference compute; law 19. -/
import Derived.Test.YthbmjicmhikpgaaS3
import Derived.Test.YthbmjicmhikpgaaM19
import Derived.KernelRfl
set_option linter.unusedVariables false
set_option linter.unusedSimpArgs false
set_option maxRecDepth 10000
namespace Go.Ev.L
open Go Go.Ev Go.Ev.M

theorem fenceS_size {p : List Int} (hp : PageOK p) {a : Int} {s : ByteArray} (h : fenceS p a = some s) : s.size ≤ 24 := by
  unfold fenceS at h
  split at h
  · cases h
  · have := U_size h
    have := hp.2.G a
    omega
theorem lowS_size {p : List Int} (hp : PageOK p) : (lowS p).size ≤ 24 ∧ (highS p).size ≤ 24 := by
  unfold lowS highS
  have h0 : (eB).size = 0 := rfl
  constructor
  · cases h : fenceS p 12 with
    | none => exact (by decide : (eB).size ≤ 24)
    | some s => have := fenceS_size hp h; simpa using this
  · cases h : fenceS p 16 with
    | none => exact (by decide : (eB).size ≤ 24)
    | some s => have := fenceS_size hp h; simpa using this

section
variable {p : List Int} (hp : PageOK p) (hv : validB p = true)
include hp hv
end
end Go.Ev.L
