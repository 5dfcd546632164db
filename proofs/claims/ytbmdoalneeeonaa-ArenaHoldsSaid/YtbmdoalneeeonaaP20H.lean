/- A part of the proof of a statement of this seat: the functions keep their promises. No condition. -/
import Derived.Test.YtbmdoalneeeonaaM20
import Derived.Test.YtbmdoalneeeonaaEv32
import Derived.Test.YtbmdoalneeeonaaChecked
set_option linter.unusedVariables false
set_option maxRecDepth 100000
namespace Go.Proofs.Ytbmdoalneeeonaa
open Go Go.Ev Go.Ev.M Go.Proofs
def tyL : List (Nat × TI) := [
  (3, ⟨(.int .i64), 1, 8, (.int .i64 (0 : Int)), some (.int .i64), false⟩),
  (4, ⟨.bool, 1, 1, (.bool false), some .bool, false⟩),
  (5, ⟨(.int .u8), 1, 1, (.int .u8 (0 : Int)), some (.int .u8), false⟩),
  (9, ⟨.str, 1, 16, (.str (⟨#[]⟩ : ByteArray)), some .str, false⟩),
  (23, ⟨(.int .i64), 1, 8, (.int .i64 (0 : Int)), some (.int .i64), false⟩),
  (26, ⟨(.sl 40), 1, 24, .nils, some (.sl (.pair (.int .i64) (.pair (.int .i64) (.pair (.pair (.int .i64) (.pair (.int .i64) (.pair .str (.pair .str (.pair (.sl (.pair .str (.pair .str .nl))) (.pair (.sl (.int .u8)) (.pair (.sl (.pair (.int .u8) (.pair (.int .u64) .nl))) .nl))))))) .nl)))), false⟩),
  (27, ⟨(.ptr 119), 1, 8, .nilp, none, false⟩),
  (29, ⟨(.ptr 89), 1, 8, .nilp, none, false⟩),
  (32, ⟨(.sl 43), 1, 24, .nils, some (.sl (.arr 128 (.int .u64))), false⟩),
  (33, ⟨(.sl 3), 1, 24, .nils, some (.sl (.int .i64)), false⟩),
  (34, ⟨(.sl 91), 1, 24, .nils, some (.sl (.pair .str (.pair .str .nl))), false⟩),
  (35, ⟨(.sl 5), 1, 24, .nils, some (.sl (.int .u8)), false⟩),
  (36, ⟨(.sl 95), 1, 24, .nils, some (.sl (.pair (.int .u8) (.pair (.int .u64) .nl))), false⟩),
  (38, ⟨(.st [(3, 0), (3, 1), (9, 2), (9, 3), (34, 4), (35, 5), (36, 6)]), 7, 120, (.cons (.int .i64 (0 : Int)) (.cons (.int .i64 (0 : Int)) (.cons (.str (⟨#[]⟩ : ByteArray)) (.cons (.str (⟨#[]⟩ : ByteArray)) (.cons .nils (.cons .nils (.cons .nils .nl))))))), some (.pair (.int .i64) (.pair (.int .i64) (.pair .str (.pair .str (.pair (.sl (.pair .str (.pair .str .nl))) (.pair (.sl (.int .u8)) (.pair (.sl (.pair (.int .u8) (.pair (.int .u64) .nl))) .nl))))))), false⟩),
  (40, ⟨(.st [(3, 0), (3, 1), (38, 2)]), 9, 136, (.cons (.int .i64 (0 : Int)) (.cons (.int .i64 (0 : Int)) (.cons (.cons (.int .i64 (0 : Int)) (.cons (.int .i64 (0 : Int)) (.cons (.str (⟨#[]⟩ : ByteArray)) (.cons (.str (⟨#[]⟩ : ByteArray)) (.cons .nils (.cons .nils (.cons .nils .nl))))))) .nl))), some (.pair (.int .i64) (.pair (.int .i64) (.pair (.pair (.int .i64) (.pair (.int .i64) (.pair .str (.pair .str (.pair (.sl (.pair .str (.pair .str .nl))) (.pair (.sl (.int .u8)) (.pair (.sl (.pair (.int .u8) (.pair (.int .u64) .nl))) .nl))))))) .nl))), false⟩),
  (41, ⟨(.int .u64), 1, 8, (.int .u64 (0 : Int)), some (.int .u64), false⟩),
  (43, ⟨(.arr 128 41), 128, 1024, (.arr (.int .u64) 128 (List.replicate 128 (0 : Int))), some (.arr 128 (.int .u64)), true⟩),
  (57, ⟨(.int .u16), 1, 2, (.int .u16 (0 : Int)), some (.int .u16), false⟩),
  (63, ⟨(.sl 57), 1, 24, .nils, some (.sl (.int .u16)), false⟩),
  (64, ⟨(.sl 41), 1, 24, .nils, some (.sl (.int .u64)), false⟩),
  (65, ⟨(.ptr 70), 1, 8, .nilp, none, false⟩),
  (70, ⟨(.st [(64, 0)]), 1, 24, (.cons .nils .nl), some (.pair (.sl (.int .u64)) .nl), false⟩),
  (86, ⟨(.st [(27, 0)]), 1, 8, (.cons .nilp .nl), none, false⟩),
  (89, ⟨(.st [(86, 0)]), 1, 8, (.cons (.cons .nilp .nl) .nl), none, false⟩),
  (91, ⟨(.st [(9, 0), (9, 1)]), 2, 32, (.cons (.str (⟨#[]⟩ : ByteArray)) (.cons (.str (⟨#[]⟩ : ByteArray)) .nl)), some (.pair .str (.pair .str .nl)), false⟩),
  (95, ⟨(.st [(5, 0), (41, 1)]), 2, 16, (.cons (.int .u8 (0 : Int)) (.cons (.int .u64 (0 : Int)) .nl)), some (.pair (.int .u8) (.pair (.int .u64) .nl)), false⟩),
  (108, ⟨(.ptr 43), 1, 8, .nilp, none, false⟩),
  (111, ⟨(.int .i64), 1, 8, (.int .i64 (0 : Int)), some (.int .i64), false⟩),
  (113, ⟨(.st [(111, 0), (3, 1), (41, 2), (41, 3)]), 4, 32, (.cons (.int .i64 (0 : Int)) (.cons (.int .i64 (0 : Int)) (.cons (.int .u64 (0 : Int)) (.cons (.int .u64 (0 : Int)) .nl)))), some (.pair (.int .i64) (.pair (.int .i64) (.pair (.int .u64) (.pair (.int .u64) .nl)))), false⟩),
  (119, ⟨(.st [(64, 0)]), 1, 24, (.cons .nils .nl), some (.pair (.sl (.int .u64)) .nl), false⟩),
  (127, ⟨(.st [(3, 0), (3, 1), (3, 2)]), 3, 24, (.cons (.int .i64 (0 : Int)) (.cons (.int .i64 (0 : Int)) (.cons (.int .i64 (0 : Int)) .nl))), some (.pair (.int .i64) (.pair (.int .i64) (.pair (.int .i64) .nl))), false⟩),
  (132, ⟨(.arr 128 4), 128, 128, (.arr .bool 128 (List.replicate 128 false)), some (.arr 128 .bool), false⟩),
  (135, ⟨(.st [(3, 0), (3, 1), (3, 2), (3, 3), (3, 4)]), 5, 40, (.cons (.int .i64 (0 : Int)) (.cons (.int .i64 (0 : Int)) (.cons (.int .i64 (0 : Int)) (.cons (.int .i64 (0 : Int)) (.cons (.int .i64 (0 : Int)) .nl))))), some (.pair (.int .i64) (.pair (.int .i64) (.pair (.int .i64) (.pair (.int .i64) (.pair (.int .i64) .nl))))), false⟩)]
theorem tysOK : tisB Try.prog tyL = true := by kernel_rfl
theorem elemOK : elemB (mkD tyL) tyL = true := by kernel_rfl
theorem mixed : Try.prog.follows .mixedOrders = true := by kernel_rfl
def mtL : List (Nat × String × Nat) := []
theorem mtOK : MOk Try.prog mtL := trivial

end Go.Proofs.Ytbmdoalneeeonaa
