/-
  No cell of these rows narrows 'for every input' (looked for: loops, veiled, ifaces, maps, wideKeys, modest, calm, conditions, laid).
  DERIVED. THE GIVEN ROWS OF THIS SEAT. 6 by the template 'for every input the law returns true; each argument reads behind the call as it read before'; 0 by the template 'total and deterministic' (their statements: YtfdgkmligadcnaaTotals.lean).
  GIVEN WITH THE SEED: the statements are not yours to turn. If you find one false, say at which input.
  Laid BY PROGRAM, IN A SANDBOX (cutbox-rows.mjs): the forced cells as the released guide's own fill.sh prints them over the translation 6a5c5e405b7e2807… (all of the seat's roots in one cut). By AI agents, Wed Nov 11 2026. No macro, syntax, notation, axiom, sorry.
-/
import Derived.Test.YtfdgkmligadcnaaChecked
import GoSem.Claim
import GoSem.ClaimJoined
import GoSem.ClaimMapViews
import Derived.JoinedTies
import Derived.KernelRfl
namespace Go.Proofs.Ytfdgkmligadcnaa
/- THE CELL 'sum', in the pinned program and in every row, IS THE sha256 OF THE DUMP (.gsa) THAT YtfdgkmligadcnaaProg.lean LOADS. Nothing in Lean hashes anything: it is a label: what it is worth is what the hold of that sum in a sandbox is worth. -/
noncomputable def Try.pinned : Pinned := { name := "ytfdgkmligadcnaa", sum := "6a5c5e405b7e28073acfcba9b4f043e06dd3bf5ba75467b9a650090dae317993", checked := Try.checked }
namespace Rows
def none {H : Type} : Left H := { results := [], args := [] }

/-- 'ticketlinelaw14.SlotCosts': WHATEVER THE INPUT: true; the input reads as it did. -/
def slotCostsSpec : ChangeSpec := { name := "slotCosts", fn := fun _ => fun
  | [d1, d2] => { results := [.lit (.bool true)], args := [d1, d2] }
  | _ => none }
def slotCostsRow : OpenClaim := { program := "ytfdgkmligadcnaa", sum := "6a5c5e405b7e28073acfcba9b4f043e06dd3bf5ba75467b9a650090dae317993", func := "ticketline/ticketlinelaw14.SlotCosts", spec := "slotCosts", inPlace := ["internal/bytealg.abigen_runtime_cmpstring"], apart := false }
def SlotCostsSaid : Prop := slotCostsRow.holds Try.pinned (OpenSpec.ofChange slotCostsSpec)

/-- ITS FALSE NEIGHBOUR: 'it returns false'. Refute it at one input. -/
def slotCostsWrong : ChangeSpec := { name := "slotCosts", fn := fun _ => fun
  | [d1, d2] => { results := [.lit (.bool false)], args := [d1, d2] }
  | _ => none }
def SlotCostsWrongFalsely : Prop := slotCostsRow.holds Try.pinned (OpenSpec.ofChange slotCostsWrong)

/-- 'ticketlinelaw14.SlotMakes': WHATEVER THE INPUT: true; the input reads as it did. -/
def slotMakesSpec : ChangeSpec := { name := "slotMakes", fn := fun _ => fun
  | [d1, d2, d3] => { results := [.lit (.bool true)], args := [d1, d2, d3] }
  | _ => none }
def slotMakesRow : OpenClaim := { program := "ytfdgkmligadcnaa", sum := "6a5c5e405b7e28073acfcba9b4f043e06dd3bf5ba75467b9a650090dae317993", func := "ticketline/ticketlinelaw14.SlotMakes", spec := "slotMakes", inPlace := ["internal/bytealg.abigen_runtime_cmpstring"], apart := false }
def SlotMakesSaid : Prop := slotMakesRow.holds Try.pinned (OpenSpec.ofChange slotMakesSpec)

/-- ITS FALSE NEIGHBOUR: 'it returns false'. Refute it at one input. -/
def slotMakesWrong : ChangeSpec := { name := "slotMakes", fn := fun _ => fun
  | [d1, d2, d3] => { results := [.lit (.bool false)], args := [d1, d2, d3] }
  | _ => none }
def SlotMakesWrongFalsely : Prop := slotMakesRow.holds Try.pinned (OpenSpec.ofChange slotMakesWrong)

/-- 'ticketlinelaw14.SlotPages': WHATEVER THE INPUT: true; the input reads as it did. -/
def slotPagesSpec : ChangeSpec := { name := "slotPages", fn := fun _ => fun
  | [d] => { results := [.lit (.bool true)], args := [d] }
  | _ => none }
def slotPagesRow : OpenClaim := { program := "ytfdgkmligadcnaa", sum := "6a5c5e405b7e28073acfcba9b4f043e06dd3bf5ba75467b9a650090dae317993", func := "ticketline/ticketlinelaw14.SlotPages", spec := "slotPages", inPlace := ["internal/bytealg.abigen_runtime_cmpstring"], apart := false }
def SlotPagesSaid : Prop := slotPagesRow.holds Try.pinned (OpenSpec.ofChange slotPagesSpec)

/-- ITS FALSE NEIGHBOUR: 'it returns false'. Refute it at one input. -/
def slotPagesWrong : ChangeSpec := { name := "slotPages", fn := fun _ => fun
  | [d] => { results := [.lit (.bool false)], args := [d] }
  | _ => none }
def SlotPagesWrongFalsely : Prop := slotPagesRow.holds Try.pinned (OpenSpec.ofChange slotPagesWrong)

/-- 'ticketlinelaw14.SlotWords': WHATEVER THE INPUT: true; the input reads as it did. -/
def slotWordsSpec : ChangeSpec := { name := "slotWords", fn := fun _ => fun
  | [d] => { results := [.lit (.bool true)], args := [d] }
  | _ => none }
def slotWordsRow : OpenClaim := { program := "ytfdgkmligadcnaa", sum := "6a5c5e405b7e28073acfcba9b4f043e06dd3bf5ba75467b9a650090dae317993", func := "ticketline/ticketlinelaw14.SlotWords", spec := "slotWords", inPlace := ["internal/bytealg.abigen_runtime_cmpstring"], apart := false }
def SlotWordsSaid : Prop := slotWordsRow.holds Try.pinned (OpenSpec.ofChange slotWordsSpec)

/-- ITS FALSE NEIGHBOUR: 'it returns false'. Refute it at one input. -/
def slotWordsWrong : ChangeSpec := { name := "slotWords", fn := fun _ => fun
  | [d] => { results := [.lit (.bool false)], args := [d] }
  | _ => none }
def SlotWordsWrongFalsely : Prop := slotWordsRow.holds Try.pinned (OpenSpec.ofChange slotWordsWrong)

/-- 'ticketlinelaw14.SlotSwaps': WHATEVER THE INPUT: true; the input reads as it did. -/
def slotSwapsSpec : ChangeSpec := { name := "slotSwaps", fn := fun _ => fun
  | [d1, d2, d3, d4] => { results := [.lit (.bool true)], args := [d1, d2, d3, d4] }
  | _ => none }
def slotSwapsRow : OpenClaim := { program := "ytfdgkmligadcnaa", sum := "6a5c5e405b7e28073acfcba9b4f043e06dd3bf5ba75467b9a650090dae317993", func := "ticketline/ticketlinelaw14.SlotSwaps", spec := "slotSwaps", inPlace := ["internal/bytealg.abigen_runtime_cmpstring"], apart := false }
def SlotSwapsSaid : Prop := slotSwapsRow.holds Try.pinned (OpenSpec.ofChange slotSwapsSpec)

/-- ITS FALSE NEIGHBOUR: 'it returns false'. Refute it at one input. -/
def slotSwapsWrong : ChangeSpec := { name := "slotSwaps", fn := fun _ => fun
  | [d1, d2, d3, d4] => { results := [.lit (.bool false)], args := [d1, d2, d3, d4] }
  | _ => none }
def SlotSwapsWrongFalsely : Prop := slotSwapsRow.holds Try.pinned (OpenSpec.ofChange slotSwapsWrong)

/-- 'ticketlinelaw14.SlotHolds': WHATEVER THE INPUT: true; the input reads as it did. -/
def slotHoldsSpec : ChangeSpec := { name := "slotHolds", fn := fun _ => fun
  | [d1, d2] => { results := [.lit (.bool true)], args := [d1, d2] }
  | _ => none }
def slotHoldsRow : OpenClaim := { program := "ytfdgkmligadcnaa", sum := "6a5c5e405b7e28073acfcba9b4f043e06dd3bf5ba75467b9a650090dae317993", func := "ticketline/ticketlinelaw14.SlotHolds", spec := "slotHolds", inPlace := ["internal/bytealg.abigen_runtime_cmpstring"], apart := false }
def SlotHoldsSaid : Prop := slotHoldsRow.holds Try.pinned (OpenSpec.ofChange slotHoldsSpec)

/-- ITS FALSE NEIGHBOUR: 'it returns false'. Refute it at one input. -/
def slotHoldsWrong : ChangeSpec := { name := "slotHolds", fn := fun _ => fun
  | [d1, d2] => { results := [.lit (.bool false)], args := [d1, d2] }
  | _ => none }
def SlotHoldsWrongFalsely : Prop := slotHoldsRow.holds Try.pinned (OpenSpec.ofChange slotHoldsWrong)

/- THE SECOND FORM. 'bulk': how many values and letters a reading holds, each counted each time it is reached (what is shared counts as often as it is met; a slice's spare places count too). A statement '..UptoSaid' is the law's where the arguments, and the package variables that the reading takes, are together of bulk at most 1048576: NARROWER than '..Said'. Prove '..Said' where nothing that the law and all that it calls make is longer than what came in: it says more and counts as full. Else prove '..UptoSaid'. A law counts once. -/
mutual
def uptoBulk {H : Type} : DataW H → Nat
  | .lit (.string bytes) => bytes.length + 1
  | .lit _ => 1
  | .nil => 1
  | .ptr d => uptoBulk d + 1
  | .slice elems spare => uptoBulkAll elems + uptoBulkAll spare + 1
  | .agg parts => uptoBulkAll parts + 1
  | .iface _ d => uptoBulk d + 1
  | .map entries => uptoBulkEntries entries + 1
  | .held _ => 1
def uptoBulkAll {H : Type} : List (DataW H) → Nat
  | [] => 0
  | d :: r => uptoBulk d + uptoBulkAll r
def uptoBulkEntries {H : Type} : List (Lit × DataW H) → Nat
  | [] => 0
  | x :: r => uptoBulkEntry x + uptoBulkEntries r
def uptoBulkEntry {H : Type} : Lit × DataW H → Nat
  | (.string bytes, d) => bytes.length + uptoBulk d + 1
  | (_, d) => uptoBulk d + 1
 end
def uptoSmall : (H : Type) → List (DataW H) → Bool := fun _ ds => decide (uptoBulkAll ds ≤ 1048576)
def OpenSpec.upto (s : _root_.Go.ChangeSpec) : _root_.Go.OpenSpec := { _root_.Go.OpenSpec.ofChange s with cond := some uptoSmall }

/-- 'ticketlinelaw14.SlotCosts', WHERE WHAT IT READS IS OF BULK AT MOST 1048576: true; the input reads as it did. -/
def slotCostsUptoRow : OpenClaim := { program := "ytfdgkmligadcnaa", sum := "6a5c5e405b7e28073acfcba9b4f043e06dd3bf5ba75467b9a650090dae317993", func := "ticketline/ticketlinelaw14.SlotCosts", spec := "slotCosts", inPlace := ["internal/bytealg.abigen_runtime_cmpstring"], apart := false, narrowed := true }
def SlotCostsUptoSaid : Prop := slotCostsUptoRow.holds Try.pinned (OpenSpec.upto slotCostsSpec)

/-- 'ticketlinelaw14.SlotMakes', WHERE WHAT IT READS IS OF BULK AT MOST 1048576: true; the input reads as it did. -/
def slotMakesUptoRow : OpenClaim := { program := "ytfdgkmligadcnaa", sum := "6a5c5e405b7e28073acfcba9b4f043e06dd3bf5ba75467b9a650090dae317993", func := "ticketline/ticketlinelaw14.SlotMakes", spec := "slotMakes", inPlace := ["internal/bytealg.abigen_runtime_cmpstring"], apart := false, narrowed := true }
def SlotMakesUptoSaid : Prop := slotMakesUptoRow.holds Try.pinned (OpenSpec.upto slotMakesSpec)

/-- 'ticketlinelaw14.SlotPages', WHERE WHAT IT READS IS OF BULK AT MOST 1048576: true; the input reads as it did. -/
def slotPagesUptoRow : OpenClaim := { program := "ytfdgkmligadcnaa", sum := "6a5c5e405b7e28073acfcba9b4f043e06dd3bf5ba75467b9a650090dae317993", func := "ticketline/ticketlinelaw14.SlotPages", spec := "slotPages", inPlace := ["internal/bytealg.abigen_runtime_cmpstring"], apart := false, narrowed := true }
def SlotPagesUptoSaid : Prop := slotPagesUptoRow.holds Try.pinned (OpenSpec.upto slotPagesSpec)

/-- 'ticketlinelaw14.SlotWords', WHERE WHAT IT READS IS OF BULK AT MOST 1048576: true; the input reads as it did. -/
def slotWordsUptoRow : OpenClaim := { program := "ytfdgkmligadcnaa", sum := "6a5c5e405b7e28073acfcba9b4f043e06dd3bf5ba75467b9a650090dae317993", func := "ticketline/ticketlinelaw14.SlotWords", spec := "slotWords", inPlace := ["internal/bytealg.abigen_runtime_cmpstring"], apart := false, narrowed := true }
def SlotWordsUptoSaid : Prop := slotWordsUptoRow.holds Try.pinned (OpenSpec.upto slotWordsSpec)

/-- 'ticketlinelaw14.SlotSwaps', WHERE WHAT IT READS IS OF BULK AT MOST 1048576: true; the input reads as it did. -/
def slotSwapsUptoRow : OpenClaim := { program := "ytfdgkmligadcnaa", sum := "6a5c5e405b7e28073acfcba9b4f043e06dd3bf5ba75467b9a650090dae317993", func := "ticketline/ticketlinelaw14.SlotSwaps", spec := "slotSwaps", inPlace := ["internal/bytealg.abigen_runtime_cmpstring"], apart := false, narrowed := true }
def SlotSwapsUptoSaid : Prop := slotSwapsUptoRow.holds Try.pinned (OpenSpec.upto slotSwapsSpec)

/-- 'ticketlinelaw14.SlotHolds', WHERE WHAT IT READS IS OF BULK AT MOST 1048576: true; the input reads as it did. -/
def slotHoldsUptoRow : OpenClaim := { program := "ytfdgkmligadcnaa", sum := "6a5c5e405b7e28073acfcba9b4f043e06dd3bf5ba75467b9a650090dae317993", func := "ticketline/ticketlinelaw14.SlotHolds", spec := "slotHolds", inPlace := ["internal/bytealg.abigen_runtime_cmpstring"], apart := false, narrowed := true }
def SlotHoldsUptoSaid : Prop := slotHoldsUptoRow.holds Try.pinned (OpenSpec.upto slotHoldsSpec)

end Rows
end Go.Proofs.Ytfdgkmligadcnaa
