/- The statements of this seat: each law holds. -/
import Derived.Test.YtiknbfledplnlaaD3
import Derived.Test.YtiknbfledplnlaaPN33b
import Derived.Test.YtiknbfledplnlaaEvD
import Derived.Test.YtiknbfledplnlaaRows
set_option maxRecDepth 100000
set_option linter.unusedVariables false
namespace Go.Proofs.Ytiknbfledplnlaa
open Go Go.Ev Go.Ev.M Go.Ev.L Go.RowKit Go.ChangeShapes

theorem own_knob : ownKnob Try.prog.godebug = none := by kernel_rfl
theorem laid_out : laidOutB Try.prog = true := by kernel_rfl

theorem deadlineNone_lifted (os : Os) (started : os.Started) (H : Type) (enc : TypeId × Value → H) :
    ReturnsInHanded {} Try.checked os 7 .any (Rows.deadlineNoneSpec.pre6 enc Try.prog Try.f7 Rows.deadlineNoneRow.domain false) (Rows.deadlineNoneSpec.post enc Try.prog Try.f7 false true false false) := by
  refine returnsInHanded_of_change (C := Try.checked) own_knob started (by kernel_rfl) Try.func7
    (ChangeSpec.witness6 (enc := enc) (C := Try.checked) false ⟨#[], #[], []⟩ 8 (by kernel_rfl) (by kernel_rfl) (by kernel_rfl) (by kernel_rfl)) ?_
  intro W base args ds gs before hval hW _ _
  refine law_contract (g := g7) meets7 Try.func7 (by kernel_rfl) (by kernel_rfl) laid_out (by kernel_rfl) (Tb := 4) rfl (by kernel_rfl) rfl (fun ds h => ?_) (fun x hx => ⟨true, ?_, fun _ _ _ _ h => says_true h⟩) W base args ds gs before hval hW
  · match ds, h with
    | [], _ => rfl
  · exact deadlineNone_true
/-- the statement DeadlineNone: whatever the input that can be read, the call returns true and leaves its arguments as they were; no condition -/
theorem deadlineNone_holds : Rows.DeadlineNoneSaid :=
  OpenClaim.holds_of_wide 7 Try.f7 rfl rfl rfl rfl rfl rfl rfl ⟨rfl, rfl, rfl, rfl, rfl⟩ rfl rfl rfl rfl rfl (by kernel_rfl) Try.func7 (by kernel_rfl)
    (of_decide_eq_true (by kernel_rfl)) (by unfold Func.isWrapper; first | (rw [if_pos (by decide +kernel)]; kernel_rfl) | (rw [if_neg (by decide +kernel)]; exact ⟨rfl, rfl⟩))
    (fun os started H enc _ => deadlineNone_lifted os started H enc)
#print axioms deadlineNone_holds
end Go.Proofs.Ytiknbfledplnlaa
