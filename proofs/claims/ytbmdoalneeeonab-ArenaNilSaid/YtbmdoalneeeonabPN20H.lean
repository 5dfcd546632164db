/- A part of the proof of a statement of this seat: the functions keep their promises. No condition. -/
import Derived.Test.YtbmdoalneeeonabMN20
import Derived.Test.YtbmdoalneeeonabEv32
import Derived.Test.YtbmdoalneeeonabChecked
set_option linter.unusedVariables false
set_option maxRecDepth 100000
namespace Go.Proofs.Ytbmdoalneeeonab
open Go Go.Ev Go.Ev.M Go.Proofs
def tyL : List (Nat × TI) := [
  (3, ⟨(.int .i64), 1, 8, (.int .i64 (0 : Int)), some (.int .i64), false⟩),
  (4, ⟨.bool, 1, 1, (.bool false), some .bool, false⟩),
  (5, ⟨(.int .u8), 1, 1, (.int .u8 (0 : Int)), some (.int .u8), false⟩),
  (9, ⟨.str, 1, 16, (.str (⟨#[]⟩ : ByteArray)), some .str, false⟩),
  (22, ⟨(.ptr 25), 1, 8, .nilp, none, false⟩),
  (23, ⟨(.sl 39), 1, 24, .nils, some (.sl (.int .u64)), false⟩),
  (25, ⟨(.st [(23, 0)]), 1, 24, (.cons .nils .nl), some (.pair (.sl (.int .u64)) .nl), false⟩),
  (26, ⟨(.sl 22), 1, 24, .nils, none, false⟩),
  (27, ⟨(.ptr 36), 1, 8, .nilp, none, false⟩),
  (28, ⟨(.int .i64), 1, 8, (.int .i64 (0 : Int)), some (.int .i64), false⟩),
  (34, ⟨(.st [(22, 0)]), 1, 8, (.cons .nilp .nl), none, false⟩),
  (36, ⟨(.st [(34, 0)]), 1, 8, (.cons (.cons .nilp .nl) .nl), none, false⟩),
  (37, ⟨(.sl 27), 1, 24, .nils, none, false⟩),
  (39, ⟨(.int .u64), 1, 8, (.int .u64 (0 : Int)), some (.int .u64), false⟩),
  (41, ⟨(.arr 128 39), 128, 1024, (.arr (.int .u64) 128 (List.replicate 128 (0 : Int))), some (.arr 128 (.int .u64)), true⟩),
  (49, ⟨(.sl 3), 1, 24, .nils, some (.sl (.int .i64)), false⟩),
  (62, ⟨(.ptr 41), 1, 8, .nilp, none, false⟩),
  (78, ⟨(.int .i64), 1, 8, (.int .i64 (0 : Int)), some (.int .i64), false⟩),
  (80, ⟨(.st [(78, 0), (3, 1), (39, 2), (39, 3)]), 4, 32, (.cons (.int .i64 (0 : Int)) (.cons (.int .i64 (0 : Int)) (.cons (.int .u64 (0 : Int)) (.cons (.int .u64 (0 : Int)) .nl)))), some (.pair (.int .i64) (.pair (.int .i64) (.pair (.int .u64) (.pair (.int .u64) .nl)))), false⟩),
  (86, ⟨(.sl 99), 1, 24, .nils, some (.sl (.pair .str (.pair .str .nl))), false⟩),
  (93, ⟨(.arr 128 4), 128, 128, (.arr .bool 128 (List.replicate 128 false)), some (.arr 128 .bool), false⟩),
  (96, ⟨(.st [(3, 0), (3, 1), (3, 2), (3, 3), (3, 4)]), 5, 40, (.cons (.int .i64 (0 : Int)) (.cons (.int .i64 (0 : Int)) (.cons (.int .i64 (0 : Int)) (.cons (.int .i64 (0 : Int)) (.cons (.int .i64 (0 : Int)) .nl))))), some (.pair (.int .i64) (.pair (.int .i64) (.pair (.int .i64) (.pair (.int .i64) (.pair (.int .i64) .nl))))), false⟩),
  (99, ⟨(.st [(9, 0), (9, 1)]), 2, 32, (.cons (.str (⟨#[]⟩ : ByteArray)) (.cons (.str (⟨#[]⟩ : ByteArray)) .nl)), some (.pair .str (.pair .str .nl)), false⟩),
  (106, ⟨(.sl 5), 1, 24, .nils, some (.sl (.int .u8)), false⟩)]
theorem tysOK : tisB Try.prog tyL = true := by kernel_rfl
theorem elemOK : elemB (mkD tyL) tyL = true := by kernel_rfl
theorem mixed : Try.prog.follows .mixedOrders = true := by kernel_rfl
def mtL : List (Nat × String × Nat) := []
theorem mtOK : MOk Try.prog mtL := trivial

end Go.Proofs.Ytbmdoalneeeonab
