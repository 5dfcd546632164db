/- The statements of this seat: each law holds. -/
import Derived.Test.YtefbnamginihkaaT3
import Derived.Test.YtefbnamginihkaaP04
import Derived.Test.YtefbnamginihkaaEvD
import Derived.Test.YtefbnamginihkaaRows
set_option maxRecDepth 100000
set_option linter.unusedVariables false
namespace Go.Proofs.Ytefbnamginihkaa
open Go Go.Ev Go.Ev.M Go.Ev.L Go.RowKit Go.ChangeShapes

theorem own_knob : ownKnob Try.prog.godebug = none := by kernel_rfl
theorem laid_out : laidOutB Try.prog = true := by kernel_rfl

theorem scriptParses_lifted (os : Os) (started : os.Started) (H : Type) (enc : TypeId × Value → H) :
    ReturnsInHanded {} Try.checked os 3 .any (Rows.scriptParsesSpec.pre6 enc Try.prog Try.f3 Rows.scriptParsesRow.domain false) (Rows.scriptParsesSpec.post enc Try.prog Try.f3 false true false false) := by
  refine returnsInHanded_of_change (C := Try.checked) own_knob started (by kernel_rfl) Try.func3
    (ChangeSpec.witness6 (enc := enc) (C := Try.checked) false ⟨#[], #[.slice none 0 0, .int .i64 0], []⟩ 8 (by kernel_rfl) (by kernel_rfl) (by kernel_rfl) (by kernel_rfl)) ?_
  intro W base args ds gs before hval hW _ _
  refine law_contract (g := g3) meets3 Try.func3 (by kernel_rfl) (by kernel_rfl) laid_out (by kernel_rfl) (Tb := 4) rfl (by kernel_rfl) rfl (fun ds h => ?_) (fun x hx => ⟨true, ?_, fun _ _ _ _ h => says_true h⟩) W base args ds gs before hval hW
  · match ds, h with
    | [_, _], _ => rfl
  · exact T4.scriptParses_true (fun y hy => u8_range (hx.1.2 y hy)) _
/-- the statement ScriptParses: whatever the input that can be read, the call returns true and leaves its arguments as they were; no condition -/
theorem scriptParses_holds : Rows.ScriptParsesSaid :=
  OpenClaim.holds_of_wide 3 Try.f3 rfl rfl rfl rfl rfl rfl rfl ⟨rfl, rfl, rfl, rfl, rfl⟩ rfl rfl rfl rfl rfl (by kernel_rfl) Try.func3 (by kernel_rfl)
    (of_decide_eq_true (by kernel_rfl)) (by unfold Func.isWrapper; first | (rw [if_pos (by decide +kernel)]; kernel_rfl) | (rw [if_neg (by decide +kernel)]; exact ⟨rfl, rfl⟩))
    (fun os started H enc _ => scriptParses_lifted os started H enc)
#print axioms scriptParses_holds

theorem scriptKeys_lifted (os : Os) (started : os.Started) (H : Type) (enc : TypeId × Value → H) :
    ReturnsInHanded {} Try.checked os 5 .any (Rows.scriptKeysSpec.pre6 enc Try.prog Try.f5 Rows.scriptKeysRow.domain false) (Rows.scriptKeysSpec.post enc Try.prog Try.f5 false true false false) := by
  refine returnsInHanded_of_change (C := Try.checked) own_knob started (by kernel_rfl) Try.func5
    (ChangeSpec.witness6 (enc := enc) (C := Try.checked) false ⟨#[], #[.int .u8 0], []⟩ 8 (by kernel_rfl) (by kernel_rfl) (by kernel_rfl) (by kernel_rfl)) ?_
  intro W base args ds gs before hval hW _ _
  refine law_contract (g := g5) meets5 Try.func5 (by kernel_rfl) (by kernel_rfl) laid_out (by kernel_rfl) (Tb := 4) rfl (by kernel_rfl) rfl (fun ds h => ?_) (fun x hx => ⟨true, ?_, fun _ _ _ _ h => says_true h⟩) W base args ds gs before hval hW
  · match ds, h with
    | [_], _ => rfl
  · exact T4.scriptKeys_true (u8_range hx.1)
/-- the statement ScriptKeys: whatever the input that can be read, the call returns true and leaves its arguments as they were; no condition -/
theorem scriptKeys_holds : Rows.ScriptKeysSaid :=
  OpenClaim.holds_of_wide 5 Try.f5 rfl rfl rfl rfl rfl rfl rfl ⟨rfl, rfl, rfl, rfl, rfl⟩ rfl rfl rfl rfl rfl (by kernel_rfl) Try.func5 (by kernel_rfl)
    (of_decide_eq_true (by kernel_rfl)) (by unfold Func.isWrapper; first | (rw [if_pos (by decide +kernel)]; kernel_rfl) | (rw [if_neg (by decide +kernel)]; exact ⟨rfl, rfl⟩))
    (fun os started H enc _ => scriptKeys_lifted os started H enc)
#print axioms scriptKeys_holds
end Go.Proofs.Ytefbnamginihkaa
