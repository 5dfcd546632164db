/- A part of the proof of a statement of this seat: the plain models of the functions. No condition. -/
import Derived.Test.YtefbnamginihkaaM14
import Derived.Test.YtefbnamginihkaaEv30
set_option linter.unusedVariables false
namespace Go.Ev.M
open Go Go.Ev
end Go.Ev.M
