/- A part of the proof of a statement of this seat: the functions keep their promises. No condition. -/
import Derived.Test.YtiknbfledplnlaaMN33
import Derived.Test.YtiknbfledplnlaaEv32
import Derived.Test.YtiknbfledplnlaaChecked
set_option linter.unusedVariables false
set_option maxRecDepth 100000
namespace Go.Proofs.Ytiknbfledplnlaa
open Go Go.Ev Go.Ev.M Go.Proofs
def tyL : List (Nat × TI) := [
  (3, ⟨(.int .i64), 1, 8, (.int .i64 (0 : Int)), some (.int .i64), false⟩),
  (4, ⟨.bool, 1, 1, (.bool false), some .bool, false⟩),
  (5, ⟨(.int .u8), 1, 1, (.int .u8 (0 : Int)), some (.int .u8), false⟩),
  (9, ⟨.str, 1, 16, (.str (⟨#[]⟩ : ByteArray)), some .str, false⟩),
  (23, ⟨(.st [(3, 0), (3, 1)]), 2, 16, (.cons (.int .i64 (0 : Int)) (.cons (.int .i64 (0 : Int)) .nl)), some (.pair (.int .i64) (.pair (.int .i64) .nl)), false⟩),
  (27, ⟨(.ptr 77), 1, 8, .nilp, none, false⟩),
  (28, ⟨(.int .i64), 1, 8, (.int .i64 (0 : Int)), some (.int .i64), false⟩),
  (37, ⟨(.int .u64), 1, 8, (.int .u64 (0 : Int)), some (.int .u64), false⟩),
  (40, ⟨(.ptr 61), 1, 8, .nilp, none, false⟩),
  (45, ⟨.iface, 1, 16, .nili, none, false⟩),
  (61, ⟨(.st [(4, 0), (4, 1), (3, 2), (3, 3)]), 4, 24, (.cons (.bool false) (.cons (.bool false) (.cons (.int .i64 (0 : Int)) (.cons (.int .i64 (0 : Int)) .nl)))), some (.pair .bool (.pair .bool (.pair (.int .i64) (.pair (.int .i64) .nl)))), false⟩),
  (62, ⟨(.sl 40), 1, 24, .nils, none, false⟩),
  (66, ⟨(.ptr 102), 1, 8, .nilp, none, false⟩),
  (70, ⟨(.arr 128 37), 128, 1024, (.arr (.int .u64) 128 (List.replicate 128 (0 : Int))), some (.arr 128 (.int .u64)), false⟩),
  (75, ⟨(.sl 37), 1, 24, .nils, some (.sl (.int .u64)), false⟩),
  (77, ⟨(.st [(75, 0)]), 1, 24, (.cons .nils .nl), some (.pair (.sl (.int .u64)) .nl), false⟩),
  (79, ⟨.iface, 1, 16, .nili, none, false⟩),
  (83, ⟨(.int .i64), 1, 8, (.int .i64 (0 : Int)), some (.int .i64), false⟩),
  (85, ⟨(.st [(83, 0), (3, 1), (37, 2), (37, 3)]), 4, 32, (.cons (.int .i64 (0 : Int)) (.cons (.int .i64 (0 : Int)) (.cons (.int .u64 (0 : Int)) (.cons (.int .u64 (0 : Int)) .nl)))), some (.pair (.int .i64) (.pair (.int .i64) (.pair (.int .u64) (.pair (.int .u64) .nl)))), false⟩),
  (89, ⟨(.ptr 111), 1, 8, .nilp, none, false⟩),
  (99, ⟨(.st [(27, 0)]), 1, 8, (.cons .nilp .nl), none, false⟩),
  (102, ⟨(.st [(99, 0)]), 1, 8, (.cons (.cons .nilp .nl) .nl), none, false⟩),
  (105, ⟨(.ptr 70), 1, 8, .nilp, none, false⟩),
  (111, ⟨(.st [(27, 0), (85, 1)]), 5, 40, (.cons .nilp (.cons (.cons (.int .i64 (0 : Int)) (.cons (.int .i64 (0 : Int)) (.cons (.int .u64 (0 : Int)) (.cons (.int .u64 (0 : Int)) .nl)))) .nl)), none, false⟩),
  (114, ⟨(.sl 127), 1, 24, .nils, some (.sl (.pair .str (.pair .str .nl))), false⟩),
  (121, ⟨(.arr 128 4), 128, 128, (.arr .bool 128 (List.replicate 128 false)), some (.arr 128 .bool), false⟩),
  (124, ⟨(.st [(3, 0), (3, 1), (3, 2), (3, 3), (3, 4)]), 5, 40, (.cons (.int .i64 (0 : Int)) (.cons (.int .i64 (0 : Int)) (.cons (.int .i64 (0 : Int)) (.cons (.int .i64 (0 : Int)) (.cons (.int .i64 (0 : Int)) .nl))))), some (.pair (.int .i64) (.pair (.int .i64) (.pair (.int .i64) (.pair (.int .i64) (.pair (.int .i64) .nl))))), false⟩),
  (127, ⟨(.st [(9, 0), (9, 1)]), 2, 32, (.cons (.str (⟨#[]⟩ : ByteArray)) (.cons (.str (⟨#[]⟩ : ByteArray)) .nl)), some (.pair .str (.pair .str .nl)), false⟩),
  (133, ⟨(.sl 5), 1, 24, .nils, some (.sl (.int .u8)), false⟩)]
theorem tysOK : tisB Try.prog tyL = true := by kernel_rfl
theorem elemOK : elemB (mkD tyL) tyL = true := by kernel_rfl
theorem mixed : Try.prog.follows .mixedOrders = true := by kernel_rfl
def mtL : List (Nat × String × Nat) := [(27, "Load", 62), (27, "Store", 16), (89, "Load", 95)]
theorem mtOK : MOk Try.prog mtL := ⟨fun _ _ => by kernel_rfl, fun _ _ => by kernel_rfl, fun _ _ => by kernel_rfl, trivial⟩

end Go.Proofs.Ytiknbfledplnlaa
