/- A part of the proof of a statement of this seat: a text of plain facts. -/
import Derived.Test.YtfdgkmligadcnaaA14
import Derived.Test.YtfdgkmligadcnaaP14
import Derived.Test.YtfdgkmligadcnaaEv29
import Derived.Test.YtfdgkmligadcnaaRows
set_option maxRecDepth 100000
namespace Go.Proofs.Ytfdgkmligadcnaa
open Go Go.Ev Go.Ev.M Go.Ev.L Go.RowKit Go.ChangeShapes

theorem own_knob : ownKnob Try.prog.godebug = none := by kernel_rfl
theorem laid_out : laidOutB Try.prog = true := by kernel_rfl

theorem slotCosts_lifted (os : Os) (started : os.Started) (H : Type) (enc : TypeId × Value → H) :
    ReturnsInHanded {} Try.checked os 3 .any (Rows.slotCostsSpec.pre6 enc Try.prog Try.f3 Rows.slotCostsRow.domain false) (Rows.slotCostsSpec.post enc Try.prog Try.f3 false true false false) := by
  refine returnsInHanded_of_change (C := Try.checked) own_knob started (by kernel_rfl) Try.func3
    (ChangeSpec.witness6 (enc := enc) (C := Try.checked) false ⟨#[], #[.string ⟨#[]⟩, .string ⟨#[]⟩], []⟩ 8 (by kernel_rfl) (by kernel_rfl) (by kernel_rfl) (by kernel_rfl)) ?_
  intro W base args ds gs before hval hW _ _
  refine law_contract (g := g3) meets3 Try.func3 (by kernel_rfl) (by kernel_rfl) laid_out (by kernel_rfl) (Tb := 4) rfl (by kernel_rfl) rfl (fun ds h => ?_) (fun x hx => ⟨true, slotCosts_true _ _, fun _ _ _ _ h => says_true h⟩) W base args ds gs before hval hW
  match ds, h with
  | [_, _], _ => rfl
/-- the cost of a slot: the statement -/
theorem slotCosts_holds : Rows.SlotCostsSaid :=
  OpenClaim.holds_of_wide 3 Try.f3 rfl rfl rfl rfl rfl rfl rfl ⟨rfl, rfl, rfl, rfl, rfl⟩ rfl rfl rfl rfl rfl (by kernel_rfl) Try.func3 (by kernel_rfl)
    (of_decide_eq_true (by kernel_rfl)) (by unfold Func.isWrapper; first | (rw [if_pos (by decide +kernel)]; kernel_rfl) | (rw [if_neg (by decide +kernel)]; exact ⟨rfl, rfl⟩))
    (fun os started H enc _ => slotCosts_lifted os started H enc)
#print axioms slotCosts_holds
end Go.Proofs.Ytfdgkmligadcnaa
