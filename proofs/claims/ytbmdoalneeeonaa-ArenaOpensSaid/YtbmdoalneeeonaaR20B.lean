/- The statements of this seat: each law holds. -/
import Derived.Test.YtbmdoalneeeonaaA9
import Derived.Test.YtbmdoalneeeonaaP20g
import Derived.Test.YtbmdoalneeeonaaEvD
import Derived.Test.YtbmdoalneeeonaaRows
set_option maxRecDepth 100000
set_option linter.unusedVariables false
namespace Go.Proofs.Ytbmdoalneeeonaa
open Go Go.Ev Go.Ev.M Go.Ev.L Go.RowKit Go.ChangeShapes

theorem own_knob : ownKnob Try.prog.godebug = none := by kernel_rfl
theorem laid_out : laidOutB Try.prog = true := by kernel_rfl

theorem arenaPlays_lifted (os : Os) (started : os.Started) (H : Type) (enc : TypeId × Value → H) :
    ReturnsInHanded {} Try.checked os 8 .any (Rows.arenaPlaysSpec.pre6 enc Try.prog Try.f8 Rows.arenaPlaysRow.domain false) (Rows.arenaPlaysSpec.post enc Try.prog Try.f8 false true false false) := by
  refine returnsInHanded_of_change (C := Try.checked) own_knob started (by kernel_rfl) Try.func8
    (ChangeSpec.witness6 (enc := enc) (C := Try.checked) false ⟨#[], #[.int .i64 0, .int .u8 0, .slice none 0 0], []⟩ 8 (by kernel_rfl) (by kernel_rfl) (by kernel_rfl) (by kernel_rfl)) ?_
  intro W base args ds gs before hval hW _ _
  refine law_contract (g := g8) meets8 Try.func8 (by kernel_rfl) (by kernel_rfl) laid_out (by kernel_rfl) (Tb := 4) rfl (by kernel_rfl) rfl (fun ds h => ?_) (fun x hx => ⟨true, ?_, fun _ _ _ _ h => says_true h⟩) W base args ds gs before hval hW
  · match ds, h with
    | [_, _, _], _ => rfl
  · exact arenaPlays_true _ (u8_range hx.2.1) (fun a ha => plnOK (hx.2.2.1.2 a ha).2.2.1)
/-- the statement ArenaPlays: whatever the input that can be read, the call returns true and leaves its arguments as they were; no condition -/
theorem arenaPlays_holds : Rows.ArenaPlaysSaid :=
  OpenClaim.holds_of_wide 8 Try.f8 rfl rfl rfl rfl rfl rfl rfl ⟨rfl, rfl, rfl, rfl, rfl⟩ rfl rfl rfl rfl rfl (by kernel_rfl) Try.func8 (by kernel_rfl)
    (of_decide_eq_true (by kernel_rfl)) (by unfold Func.isWrapper; first | (rw [if_pos (by decide +kernel)]; kernel_rfl) | (rw [if_neg (by decide +kernel)]; exact ⟨rfl, rfl⟩))
    (fun os started H enc _ => arenaPlays_lifted os started H enc)
#print axioms arenaPlays_holds

theorem arenaOpens_lifted (os : Os) (started : os.Started) (H : Type) (enc : TypeId × Value → H) :
    ReturnsInHanded {} Try.checked os 6 .any (Rows.arenaOpensSpec.pre6 enc Try.prog Try.f6 Rows.arenaOpensRow.domain false) (Rows.arenaOpensSpec.post enc Try.prog Try.f6 false true false false) := by
  refine returnsInHanded_of_change (C := Try.checked) own_knob started (by kernel_rfl) Try.func6
    (ChangeSpec.witness6 (enc := enc) (C := Try.checked) false ⟨#[], #[.int .i64 0, .int .u8 0, .slice none 0 0, .slice none 0 0, .slice none 0 0, .int .u16 0], []⟩ 8 (by kernel_rfl) (by kernel_rfl) (by kernel_rfl) (by kernel_rfl)) ?_
  intro W base args ds gs before hval hW _ _
  refine law_contract (g := g6) meets6 Try.func6 (by kernel_rfl) (by kernel_rfl) laid_out (by kernel_rfl) (Tb := 4) rfl (by kernel_rfl) rfl (fun ds h => ?_) (fun x hx => ⟨true, ?_, fun _ _ _ _ h => says_true h⟩) W base args ds gs before hval hW
  · match ds, h with
    | [_, _, _, _, _, _], _ => rfl
  · exact arenaOpens_true _ (u8_range hx.2.1) (fun a ha => plnOK (hx.2.2.1.2 a ha).2.2.1) (fun a ha => u16_range (hx.2.2.2.1.2 a ha)) (fun a ha => u64_range (hx.2.2.2.2.1.2 a ha)) (u16_range hx.2.2.2.2.2.1)
/-- the statement ArenaOpens: whatever the input that can be read, the call returns true and leaves its arguments as they were; no condition -/
theorem arenaOpens_holds : Rows.ArenaOpensSaid :=
  OpenClaim.holds_of_wide 6 Try.f6 rfl rfl rfl rfl rfl rfl rfl ⟨rfl, rfl, rfl, rfl, rfl⟩ rfl rfl rfl rfl rfl (by kernel_rfl) Try.func6 (by kernel_rfl)
    (of_decide_eq_true (by kernel_rfl)) (by unfold Func.isWrapper; first | (rw [if_pos (by decide +kernel)]; kernel_rfl) | (rw [if_neg (by decide +kernel)]; exact ⟨rfl, rfl⟩))
    (fun os started H enc _ => arenaOpens_lifted os started H enc)
#print axioms arenaOpens_holds
end Go.Proofs.Ytbmdoalneeeonaa
