/- The statements of this seat: each law holds. -/
import Derived.Test.YthbmjicmhikpgaaO9
import Derived.Test.YthbmjicmhikpgaaPgB
import Derived.Test.YthbmjicmhikpgaaP17
import Derived.Test.YthbmjicmhikpgaaEvD
import Derived.Test.YthbmjicmhikpgaaRows
set_option maxRecDepth 100000
set_option linter.unusedVariables false
namespace Go.Proofs.Ythbmjicmhikpgaa
open Go Go.Ev Go.Ev.M Go.Ev.L Go.RowKit Go.ChangeShapes

theorem own_knob : ownKnob Try.prog.godebug = none := by kernel_rfl
theorem laid_out : laidOutB Try.prog = true := by kernel_rfl

theorem splitAgain_lifted (os : Os) (started : os.Started) (H : Type) (enc : TypeId × Value → H) :
    ReturnsInHanded {} Try.checked os 6 .any (Rows.splitAgainSpec.pre6 enc Try.prog Try.f6 Rows.splitAgainRow.domain false) (Rows.splitAgainSpec.post enc Try.prog Try.f6 false true false false) := by
  refine returnsInHanded_of_change (C := Try.checked) own_knob started (by kernel_rfl) Try.func6
    (ChangeSpec.witness6 (enc := enc) (C := Try.checked) false ⟨#[], #[.agg #[.int .i64 0, .int .i64 0, .string ⟨#[]⟩, .string ⟨#[]⟩, .slice none 0 0, .slice none 0 0, .slice none 0 0], .int .u16 0], []⟩ 8 (by kernel_rfl) (by kernel_rfl) (by kernel_rfl) (by kernel_rfl)) ?_
  intro W base args ds gs before hval hW _ _
  refine law_contract (g := g6) meets6 Try.func6 (by kernel_rfl) (by kernel_rfl) laid_out (by kernel_rfl) (Tb := 4) rfl (by kernel_rfl) rfl (fun ds h => ?_) (fun x hx => ⟨true, ?_, fun _ _ _ _ h => says_true h⟩) W base args ds gs before hval hW
  · match ds, h with
    | [_, _], _ => rfl
  · exact splitAgain_true (plnOK hx.1) (u16_range hx.2.1)
/-- the statement SplitAgain: whatever the input that can be read, the call returns true and leaves its arguments as they were; no condition -/
theorem splitAgain_holds : Rows.SplitAgainSaid :=
  OpenClaim.holds_of_wide 6 Try.f6 rfl rfl rfl rfl rfl rfl rfl ⟨rfl, rfl, rfl, rfl, rfl⟩ rfl rfl rfl rfl rfl (by kernel_rfl) Try.func6 (by kernel_rfl)
    (of_decide_eq_true (by kernel_rfl)) (by unfold Func.isWrapper; first | (rw [if_pos (by decide +kernel)]; kernel_rfl) | (rw [if_neg (by decide +kernel)]; exact ⟨rfl, rfl⟩))
    (fun os started H enc _ => splitAgain_lifted os started H enc)
#print axioms splitAgain_holds
end Go.Proofs.Ythbmjicmhikpgaa
