/- Law 17: roots; the stage's theorem. -/
import Derived.Test.YtfohnbfhajkelaaO7
set_option linter.unusedVariables false
set_option linter.unusedSimpArgs false
set_option linter.unusedSectionVars false
set_option maxRecDepth 10000
namespace Go.Ev.L
open Go Go.Ev Go.Ev.M

end Go.Ev.L
