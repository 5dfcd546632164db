/- The statements of this seat: each law holds. -/
import Derived.Test.YthbmjicmhikpgaaO8
import Derived.Test.YthbmjicmhikpgaaPgB
import Derived.Test.YthbmjicmhikpgaaP17
import Derived.Test.YthbmjicmhikpgaaEvD
import Derived.Test.YthbmjicmhikpgaaRows
set_option maxRecDepth 100000
set_option linter.unusedVariables false
namespace Go.Proofs.Ythbmjicmhikpgaa
open Go Go.Ev Go.Ev.M Go.Ev.L Go.RowKit Go.ChangeShapes

theorem own_knob : ownKnob Try.prog.godebug = none := by kernel_rfl
theorem laid_out : laidOutB Try.prog = true := by kernel_rfl

theorem splitPlaces_lifted (os : Os) (started : os.Started) (H : Type) (enc : TypeId × Value → H) :
    ReturnsInHanded {} Try.checked os 3 .any (Rows.splitPlacesSpec.pre6 enc Try.prog Try.f3 Rows.splitPlacesRow.domain false) (Rows.splitPlacesSpec.post enc Try.prog Try.f3 false true false false) := by
  refine returnsInHanded_of_change (C := Try.checked) own_knob started (by kernel_rfl) Try.func3
    (ChangeSpec.witness6 (enc := enc) (C := Try.checked) false ⟨#[], #[.agg #[.int .i64 0, .int .i64 0, .string ⟨#[]⟩, .string ⟨#[]⟩, .slice none 0 0, .slice none 0 0, .slice none 0 0]], []⟩ 8 (by kernel_rfl) (by kernel_rfl) (by kernel_rfl) (by kernel_rfl)) ?_
  intro W base args ds gs before hval hW _ _
  refine law_contract (g := g3) meets3 Try.func3 (by kernel_rfl) (by kernel_rfl) laid_out (by kernel_rfl) (Tb := 4) rfl (by kernel_rfl) rfl (fun ds h => ?_) (fun x hx => ⟨true, ?_, fun _ _ _ _ h => says_true h⟩) W base args ds gs before hval hW
  · match ds, h with
    | [_], _ => rfl
  · exact splitPlaces_true (plnOK hx.1)
/-- the statement SplitPlaces: whatever the input that can be read, the call returns true and leaves its arguments as they were; no condition -/
theorem splitPlaces_holds : Rows.SplitPlacesSaid :=
  OpenClaim.holds_of_wide 3 Try.f3 rfl rfl rfl rfl rfl rfl rfl ⟨rfl, rfl, rfl, rfl, rfl⟩ rfl rfl rfl rfl rfl (by kernel_rfl) Try.func3 (by kernel_rfl)
    (of_decide_eq_true (by kernel_rfl)) (by unfold Func.isWrapper; first | (rw [if_pos (by decide +kernel)]; kernel_rfl) | (rw [if_neg (by decide +kernel)]; exact ⟨rfl, rfl⟩))
    (fun os started H enc _ => splitPlaces_lifted os started H enc)
#print axioms splitPlaces_holds

theorem splitHalves_lifted (os : Os) (started : os.Started) (H : Type) (enc : TypeId × Value → H) :
    ReturnsInHanded {} Try.checked os 4 .any (Rows.splitHalvesSpec.pre6 enc Try.prog Try.f4 Rows.splitHalvesRow.domain false) (Rows.splitHalvesSpec.post enc Try.prog Try.f4 false true false false) := by
  refine returnsInHanded_of_change (C := Try.checked) own_knob started (by kernel_rfl) Try.func4
    (ChangeSpec.witness6 (enc := enc) (C := Try.checked) false ⟨#[], #[.agg #[.int .i64 0, .int .i64 0, .string ⟨#[]⟩, .string ⟨#[]⟩, .slice none 0 0, .slice none 0 0, .slice none 0 0], .int .i64 0], []⟩ 8 (by kernel_rfl) (by kernel_rfl) (by kernel_rfl) (by kernel_rfl)) ?_
  intro W base args ds gs before hval hW _ _
  refine law_contract (g := g4) meets4 Try.func4 (by kernel_rfl) (by kernel_rfl) laid_out (by kernel_rfl) (Tb := 4) rfl (by kernel_rfl) rfl (fun ds h => ?_) (fun x hx => ⟨true, ?_, fun _ _ _ _ h => says_true h⟩) W base args ds gs before hval hW
  · match ds, h with
    | [_, _], _ => rfl
  · exact splitHalves_true (plnOK hx.1) _
/-- the statement SplitHalves: whatever the input that can be read, the call returns true and leaves its arguments as they were; no condition -/
theorem splitHalves_holds : Rows.SplitHalvesSaid :=
  OpenClaim.holds_of_wide 4 Try.f4 rfl rfl rfl rfl rfl rfl rfl ⟨rfl, rfl, rfl, rfl, rfl⟩ rfl rfl rfl rfl rfl (by kernel_rfl) Try.func4 (by kernel_rfl)
    (of_decide_eq_true (by kernel_rfl)) (by unfold Func.isWrapper; first | (rw [if_pos (by decide +kernel)]; kernel_rfl) | (rw [if_neg (by decide +kernel)]; exact ⟨rfl, rfl⟩))
    (fun os started H enc _ => splitHalves_lifted os started H enc)
#print axioms splitHalves_holds

theorem splitRoots_lifted (os : Os) (started : os.Started) (H : Type) (enc : TypeId × Value → H) :
    ReturnsInHanded {} Try.checked os 5 .any (Rows.splitRootsSpec.pre6 enc Try.prog Try.f5 Rows.splitRootsRow.domain false) (Rows.splitRootsSpec.post enc Try.prog Try.f5 false true false false) := by
  refine returnsInHanded_of_change (C := Try.checked) own_knob started (by kernel_rfl) Try.func5
    (ChangeSpec.witness6 (enc := enc) (C := Try.checked) false ⟨#[], #[.int .i64 0, .int .i64 0, .int .i64 0, .string ⟨#[]⟩], []⟩ 8 (by kernel_rfl) (by kernel_rfl) (by kernel_rfl) (by kernel_rfl)) ?_
  intro W base args ds gs before hval hW _ _
  refine law_contract (g := g5) meets5 Try.func5 (by kernel_rfl) (by kernel_rfl) laid_out (by kernel_rfl) (Tb := 4) rfl (by kernel_rfl) rfl (fun ds h => ?_) (fun x hx => ⟨true, ?_, fun _ _ _ _ h => says_true h⟩) W base args ds gs before hval hW
  · match ds, h with
    | [_, _, _, _], _ => rfl
  · exact splitRoots_true _ _ _ _
/-- the statement SplitRoots: whatever the input that can be read, the call returns true and leaves its arguments as they were; no condition -/
theorem splitRoots_holds : Rows.SplitRootsSaid :=
  OpenClaim.holds_of_wide 5 Try.f5 rfl rfl rfl rfl rfl rfl rfl ⟨rfl, rfl, rfl, rfl, rfl⟩ rfl rfl rfl rfl rfl (by kernel_rfl) Try.func5 (by kernel_rfl)
    (of_decide_eq_true (by kernel_rfl)) (by unfold Func.isWrapper; first | (rw [if_pos (by decide +kernel)]; kernel_rfl) | (rw [if_neg (by decide +kernel)]; exact ⟨rfl, rfl⟩))
    (fun os started H enc _ => splitRoots_lifted os started H enc)
#print axioms splitRoots_holds

theorem splitHolds_lifted (os : Os) (started : os.Started) (H : Type) (enc : TypeId × Value → H) :
    ReturnsInHanded {} Try.checked os 7 .any (Rows.splitHoldsSpec.pre6 enc Try.prog Try.f7 Rows.splitHoldsRow.domain false) (Rows.splitHoldsSpec.post enc Try.prog Try.f7 false true false false) := by
  refine returnsInHanded_of_change (C := Try.checked) own_knob started (by kernel_rfl) Try.func7
    (ChangeSpec.witness6 (enc := enc) (C := Try.checked) false ⟨#[], #[.agg #[.int .i64 0, .int .i64 0, .string ⟨#[]⟩, .string ⟨#[]⟩, .slice none 0 0, .slice none 0 0, .slice none 0 0], .int .i64 0], []⟩ 8 (by kernel_rfl) (by kernel_rfl) (by kernel_rfl) (by kernel_rfl)) ?_
  intro W base args ds gs before hval hW _ _
  refine law_contract (g := g7) meets7 Try.func7 (by kernel_rfl) (by kernel_rfl) laid_out (by kernel_rfl) (Tb := 4) rfl (by kernel_rfl) rfl (fun ds h => ?_) (fun x hx => ⟨true, ?_, fun _ _ _ _ h => says_true h⟩) W base args ds gs before hval hW
  · match ds, h with
    | [_, _], _ => rfl
  · exact splitHolds_true (plnOK hx.1) _
/-- the statement SplitHolds: whatever the input that can be read, the call returns true and leaves its arguments as they were; no condition -/
theorem splitHolds_holds : Rows.SplitHoldsSaid :=
  OpenClaim.holds_of_wide 7 Try.f7 rfl rfl rfl rfl rfl rfl rfl ⟨rfl, rfl, rfl, rfl, rfl⟩ rfl rfl rfl rfl rfl (by kernel_rfl) Try.func7 (by kernel_rfl)
    (of_decide_eq_true (by kernel_rfl)) (by unfold Func.isWrapper; first | (rw [if_pos (by decide +kernel)]; kernel_rfl) | (rw [if_neg (by decide +kernel)]; exact ⟨rfl, rfl⟩))
    (fun os started H enc _ => splitHolds_lifted os started H enc)
#print axioms splitHolds_holds
end Go.Proofs.Ythbmjicmhikpgaa
