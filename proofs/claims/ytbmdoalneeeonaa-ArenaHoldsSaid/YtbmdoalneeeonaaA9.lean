/- Arenas: which words are those of an arena; the program and the reference agree on any words. -/
import Derived.Test.YtbmdoalneeeonaaA8
set_option linter.unusedVariables false
set_option linter.unusedSimpArgs false
namespace Go.Ev.L
open Go Go.Ev Go.Ev.M

/-- the root's page is right -/
def rootB (w : List Int) (n : Int) : Bool := (G w 3 == 0) || (decide (G w 3 ≤ n) && usedK (K w (G w 3)))
end Go.Ev.L
