/- Fences and right links: what the program and the reference compute; law 19. -/
import Derived.Test.YtfohnbfhajkelaaS3
import Derived.Test.YtfohnbfhajkelaaM19
import Derived.KernelRfl
set_option linter.unusedVariables false
set_option linter.unusedSimpArgs false
set_option maxRecDepth 10000
namespace Go.Ev.L
open Go Go.Ev Go.Ev.M

section
variable {p : List Int} (hp : PageOK p) (hv : validB p = true)
include hp hv
end
end Go.Ev.L
