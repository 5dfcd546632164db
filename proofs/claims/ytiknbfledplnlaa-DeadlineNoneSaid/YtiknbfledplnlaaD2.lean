/- Deadlines: the laws of this seat hold. -/
import Derived.Test.YtiknbfledplnlaaD1
set_option linter.unusedVariables false
set_option linter.unusedSimpArgs false
namespace Go.Ev.L
open Go Go.Ev Go.Ev.M

end Go.Ev.L
