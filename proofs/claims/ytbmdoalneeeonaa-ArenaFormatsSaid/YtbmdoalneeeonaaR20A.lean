/- The statements of this seat: each law holds. -/
import Derived.Test.YtbmdoalneeeonaaA4
import Derived.Test.YtbmdoalneeeonaaP20c
import Derived.Test.YtbmdoalneeeonaaEvD
import Derived.Test.YtbmdoalneeeonaaRows
set_option maxRecDepth 100000
set_option linter.unusedVariables false
namespace Go.Proofs.Ytbmdoalneeeonaa
open Go Go.Ev Go.Ev.M Go.Ev.L Go.RowKit Go.ChangeShapes

theorem own_knob : ownKnob Try.prog.godebug = none := by kernel_rfl
theorem laid_out : laidOutB Try.prog = true := by kernel_rfl

theorem arenaWords_lifted (os : Os) (started : os.Started) (H : Type) (enc : TypeId × Value → H) :
    ReturnsInHanded {} Try.checked os 3 .any (Rows.arenaWordsSpec.pre6 enc Try.prog Try.f3 Rows.arenaWordsRow.domain false) (Rows.arenaWordsSpec.post enc Try.prog Try.f3 false true false false) := by
  refine returnsInHanded_of_change (C := Try.checked) own_knob started (by kernel_rfl) Try.func3
    (ChangeSpec.witness6 (enc := enc) (C := Try.checked) false ⟨#[], #[.int .i64 0, .int .i64 0], []⟩ 8 (by kernel_rfl) (by kernel_rfl) (by kernel_rfl) (by kernel_rfl)) ?_
  intro W base args ds gs before hval hW _ _
  refine law_contract (g := g3) meets3 Try.func3 (by kernel_rfl) (by kernel_rfl) laid_out (by kernel_rfl) (Tb := 4) rfl (by kernel_rfl) rfl (fun ds h => ?_) (fun x hx => ⟨true, ?_, fun _ _ _ _ h => says_true h⟩) W base args ds gs before hval hW
  · match ds, h with
    | [_, _], _ => rfl
  · exact arenaWords_true _ _
/-- the statement ArenaWords: whatever the input that can be read, the call returns true and leaves its arguments as they were; no condition -/
theorem arenaWords_holds : Rows.ArenaWordsSaid :=
  OpenClaim.holds_of_wide 3 Try.f3 rfl rfl rfl rfl rfl rfl rfl ⟨rfl, rfl, rfl, rfl, rfl⟩ rfl rfl rfl rfl rfl (by kernel_rfl) Try.func3 (by kernel_rfl)
    (of_decide_eq_true (by kernel_rfl)) (by unfold Func.isWrapper; first | (rw [if_pos (by decide +kernel)]; kernel_rfl) | (rw [if_neg (by decide +kernel)]; exact ⟨rfl, rfl⟩))
    (fun os started H enc _ => arenaWords_lifted os started H enc)
#print axioms arenaWords_holds

theorem arenaFormats_lifted (os : Os) (started : os.Started) (H : Type) (enc : TypeId × Value → H) :
    ReturnsInHanded {} Try.checked os 7 .any (Rows.arenaFormatsSpec.pre6 enc Try.prog Try.f7 Rows.arenaFormatsRow.domain false) (Rows.arenaFormatsSpec.post enc Try.prog Try.f7 false true false false) := by
  refine returnsInHanded_of_change (C := Try.checked) own_knob started (by kernel_rfl) Try.func7
    (ChangeSpec.witness6 (enc := enc) (C := Try.checked) false ⟨#[], #[.int .i64 0, .int .i64 0], []⟩ 8 (by kernel_rfl) (by kernel_rfl) (by kernel_rfl) (by kernel_rfl)) ?_
  intro W base args ds gs before hval hW _ _
  refine law_contract (g := g7) meets7 Try.func7 (by kernel_rfl) (by kernel_rfl) laid_out (by kernel_rfl) (Tb := 4) rfl (by kernel_rfl) rfl (fun ds h => ?_) (fun x hx => ⟨true, ?_, fun _ _ _ _ h => says_true h⟩) W base args ds gs before hval hW
  · match ds, h with
    | [_, _], _ => rfl
  · exact arenaFormats_true _ _
/-- the statement ArenaFormats: whatever the input that can be read, the call returns true and leaves its arguments as they were; no condition -/
theorem arenaFormats_holds : Rows.ArenaFormatsSaid :=
  OpenClaim.holds_of_wide 7 Try.f7 rfl rfl rfl rfl rfl rfl rfl ⟨rfl, rfl, rfl, rfl, rfl⟩ rfl rfl rfl rfl rfl (by kernel_rfl) Try.func7 (by kernel_rfl)
    (of_decide_eq_true (by kernel_rfl)) (by unfold Func.isWrapper; first | (rw [if_pos (by decide +kernel)]; kernel_rfl) | (rw [if_neg (by decide +kernel)]; exact ⟨rfl, rfl⟩))
    (fun os started H enc _ => arenaFormats_lifted os started H enc)
#print axioms arenaFormats_holds

theorem arenaMany_lifted (os : Os) (started : os.Started) (H : Type) (enc : TypeId × Value → H) :
    ReturnsInHanded {} Try.checked os 5 .any (Rows.arenaManySpec.pre6 enc Try.prog Try.f5 Rows.arenaManyRow.domain false) (Rows.arenaManySpec.post enc Try.prog Try.f5 false true false false) := by
  refine returnsInHanded_of_change (C := Try.checked) own_knob started (by kernel_rfl) Try.func5
    (ChangeSpec.witness6 (enc := enc) (C := Try.checked) false ⟨#[], #[.int .i64 0, .int .u16 0], []⟩ 8 (by kernel_rfl) (by kernel_rfl) (by kernel_rfl) (by kernel_rfl)) ?_
  intro W base args ds gs before hval hW _ _
  refine law_contract (g := g5) meets5 Try.func5 (by kernel_rfl) (by kernel_rfl) laid_out (by kernel_rfl) (Tb := 4) rfl (by kernel_rfl) rfl (fun ds h => ?_) (fun x hx => ⟨true, ?_, fun _ _ _ _ h => says_true h⟩) W base args ds gs before hval hW
  · match ds, h with
    | [_, _], _ => rfl
  · exact arenaMany_true _ (u16_range hx.2.1)
/-- the statement ArenaMany: whatever the input that can be read, the call returns true and leaves its arguments as they were; no condition -/
theorem arenaMany_holds : Rows.ArenaManySaid :=
  OpenClaim.holds_of_wide 5 Try.f5 rfl rfl rfl rfl rfl rfl rfl ⟨rfl, rfl, rfl, rfl, rfl⟩ rfl rfl rfl rfl rfl (by kernel_rfl) Try.func5 (by kernel_rfl)
    (of_decide_eq_true (by kernel_rfl)) (by unfold Func.isWrapper; first | (rw [if_pos (by decide +kernel)]; kernel_rfl) | (rw [if_neg (by decide +kernel)]; exact ⟨rfl, rfl⟩))
    (fun os started H enc _ => arenaMany_lifted os started H enc)
#print axioms arenaMany_holds
end Go.Proofs.Ytbmdoalneeeonaa
