/- Splitting: what the program and the reference compute; law 17. -/
import Derived.Test.YtfohnbfhajkelaaO6
import Derived.KernelRfl
set_option linter.unusedVariables false
set_option linter.unusedSimpArgs false
set_option linter.unusedSectionVars false
set_option maxRecDepth 10000
namespace Go.Ev.L
open Go Go.Ev Go.Ev.M

section
variable {p q : List Int} (hp : PageOK p) (hq : PageOK q)
include hp hq
end

section
variable {p : List Int} (hp : PageOK p) (hs : srtB p = true)
include hp hs
end

section
variable {p : List Int} (hp : PageOK p) (hs : srtB p = true) {number : Int} (n0 : 1 ≤ number) (n1 : number ≤ 511) (h2 : 2 ≤ (pairsS p).length)
include hp hs n0 n1 h2
end

end Go.Ev.L
