/- Law 15: a plan's own keys; the stage's theorem. -/
import Derived.Test.YthbmjicmhikpgaaS2
set_option linter.unusedVariables false
set_option linter.unusedSimpArgs false
set_option maxRecDepth 10000
namespace Go.Ev.L
open Go Go.Ev Go.Ev.M

section
variable {p : List Int} (hp : PageOK p) (hs : srtB p = true)
include hp hs

end

end Go.Ev.L
