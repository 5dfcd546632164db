/-
  No cell of these rows narrows 'for every input' (looked for: loops, veiled, ifaces, maps, wideKeys, modest, calm, conditions, laid).
  DERIVED. THE GIVEN ROWS OF THIS SEAT. 5 by the template 'for every input the law returns true; each argument reads behind the call as it read before'; 0 by the template 'total and deterministic' (their statements: YtakncomdmgbjaaaTotals.lean).
  GIVEN WITH THE SEED: the statements are not yours to turn. If you find one false, say at which input.
  Laid BY PROGRAM, IN A SANDBOX (cutbox-rows.mjs): the forced cells as the released guide's own fill.sh prints them over the translation 8960e1acbc7ec551… (all of the seat's roots in one cut). By AI agents, Wed Nov 11 2026. No macro, syntax, notation, axiom, sorry.
-/
import Derived.Test.YtakncomdmgbjaaaChecked
import GoSem.Claim
import GoSem.ClaimJoined
import GoSem.ClaimMapViews
import Derived.JoinedTies
import Derived.KernelRfl
namespace Go.Proofs.Ytakncomdmgbjaaa
/- THE CELL 'sum', in the pinned program and in every row, IS THE sha256 OF THE DUMP (.gsa) THAT YtakncomdmgbjaaaProg.lean LOADS. Nothing in Lean hashes anything: it is a label: what it is worth is what the hold of that sum in a sandbox is worth. -/
noncomputable def Try.pinned : Pinned := { name := "ytakncomdmgbjaaa", sum := "8960e1acbc7ec5518258bad9edc971b8b6dd9fa8a4f2ba20e29f62f0cf2bcb9f", checked := Try.checked }
namespace Rows
def none {H : Type} : Left H := { results := [], args := [] }

/-- 'ticketlinelaw18.MergePoor': WHATEVER THE INPUT: true; the input reads as it did. -/
def mergePoorSpec : ChangeSpec := { name := "mergePoor", fn := fun _ => fun
  | [d] => { results := [.lit (.bool true)], args := [d] }
  | _ => none }
def mergePoorRow : OpenClaim := { program := "ytakncomdmgbjaaa", sum := "8960e1acbc7ec5518258bad9edc971b8b6dd9fa8a4f2ba20e29f62f0cf2bcb9f", func := "ticketline/ticketlinelaw18.MergePoor", spec := "mergePoor", inPlace := ["internal/bytealg.abigen_runtime_cmpstring"], apart := false }
def MergePoorSaid : Prop := mergePoorRow.holds Try.pinned (OpenSpec.ofChange mergePoorSpec)

/-- ITS FALSE NEIGHBOUR: 'it returns false'. Refute it at one input. -/
def mergePoorWrong : ChangeSpec := { name := "mergePoor", fn := fun _ => fun
  | [d] => { results := [.lit (.bool false)], args := [d] }
  | _ => none }
def MergePoorWrongFalsely : Prop := mergePoorRow.holds Try.pinned (OpenSpec.ofChange mergePoorWrong)

/-- 'ticketlinelaw18.MergePages': WHATEVER THE INPUT: true; the input reads as it did. -/
def mergePagesSpec : ChangeSpec := { name := "mergePages", fn := fun _ => fun
  | [d1, d2] => { results := [.lit (.bool true)], args := [d1, d2] }
  | _ => none }
def mergePagesRow : OpenClaim := { program := "ytakncomdmgbjaaa", sum := "8960e1acbc7ec5518258bad9edc971b8b6dd9fa8a4f2ba20e29f62f0cf2bcb9f", func := "ticketline/ticketlinelaw18.MergePages", spec := "mergePages", inPlace := ["internal/bytealg.abigen_runtime_cmpstring"], apart := false }
def MergePagesSaid : Prop := mergePagesRow.holds Try.pinned (OpenSpec.ofChange mergePagesSpec)

/-- ITS FALSE NEIGHBOUR: 'it returns false'. Refute it at one input. -/
def mergePagesWrong : ChangeSpec := { name := "mergePages", fn := fun _ => fun
  | [d1, d2] => { results := [.lit (.bool false)], args := [d1, d2] }
  | _ => none }
def MergePagesWrongFalsely : Prop := mergePagesRow.holds Try.pinned (OpenSpec.ofChange mergePagesWrong)

/-- 'ticketlinelaw18.MergeRows': WHATEVER THE INPUT: true; the input reads as it did. -/
def mergeRowsSpec : ChangeSpec := { name := "mergeRows", fn := fun _ => fun
  | [d] => { results := [.lit (.bool true)], args := [d] }
  | _ => none }
def mergeRowsRow : OpenClaim := { program := "ytakncomdmgbjaaa", sum := "8960e1acbc7ec5518258bad9edc971b8b6dd9fa8a4f2ba20e29f62f0cf2bcb9f", func := "ticketline/ticketlinelaw18.MergeRows", spec := "mergeRows", inPlace := ["internal/bytealg.abigen_runtime_cmpstring"], apart := false }
def MergeRowsSaid : Prop := mergeRowsRow.holds Try.pinned (OpenSpec.ofChange mergeRowsSpec)

/-- ITS FALSE NEIGHBOUR: 'it returns false'. Refute it at one input. -/
def mergeRowsWrong : ChangeSpec := { name := "mergeRows", fn := fun _ => fun
  | [d] => { results := [.lit (.bool false)], args := [d] }
  | _ => none }
def MergeRowsWrongFalsely : Prop := mergeRowsRow.holds Try.pinned (OpenSpec.ofChange mergeRowsWrong)

/-- 'ticketlinelaw18.MergeSplits': WHATEVER THE INPUT: true; the input reads as it did. -/
def mergeSplitsSpec : ChangeSpec := { name := "mergeSplits", fn := fun _ => fun
  | [d1, d2] => { results := [.lit (.bool true)], args := [d1, d2] }
  | _ => none }
def mergeSplitsRow : OpenClaim := { program := "ytakncomdmgbjaaa", sum := "8960e1acbc7ec5518258bad9edc971b8b6dd9fa8a4f2ba20e29f62f0cf2bcb9f", func := "ticketline/ticketlinelaw18.MergeSplits", spec := "mergeSplits", inPlace := ["internal/bytealg.abigen_runtime_cmpstring"], apart := false }
def MergeSplitsSaid : Prop := mergeSplitsRow.holds Try.pinned (OpenSpec.ofChange mergeSplitsSpec)

/-- ITS FALSE NEIGHBOUR: 'it returns false'. Refute it at one input. -/
def mergeSplitsWrong : ChangeSpec := { name := "mergeSplits", fn := fun _ => fun
  | [d1, d2] => { results := [.lit (.bool false)], args := [d1, d2] }
  | _ => none }
def MergeSplitsWrongFalsely : Prop := mergeSplitsRow.holds Try.pinned (OpenSpec.ofChange mergeSplitsWrong)

/-- 'ticketlinelaw18.MergeHolds': WHATEVER THE INPUT: true; the input reads as it did. -/
def mergeHoldsSpec : ChangeSpec := { name := "mergeHolds", fn := fun _ => fun
  | [d1, d2] => { results := [.lit (.bool true)], args := [d1, d2] }
  | _ => none }
def mergeHoldsRow : OpenClaim := { program := "ytakncomdmgbjaaa", sum := "8960e1acbc7ec5518258bad9edc971b8b6dd9fa8a4f2ba20e29f62f0cf2bcb9f", func := "ticketline/ticketlinelaw18.MergeHolds", spec := "mergeHolds", inPlace := ["internal/bytealg.abigen_runtime_cmpstring"], apart := false }
def MergeHoldsSaid : Prop := mergeHoldsRow.holds Try.pinned (OpenSpec.ofChange mergeHoldsSpec)

/-- ITS FALSE NEIGHBOUR: 'it returns false'. Refute it at one input. -/
def mergeHoldsWrong : ChangeSpec := { name := "mergeHolds", fn := fun _ => fun
  | [d1, d2] => { results := [.lit (.bool false)], args := [d1, d2] }
  | _ => none }
def MergeHoldsWrongFalsely : Prop := mergeHoldsRow.holds Try.pinned (OpenSpec.ofChange mergeHoldsWrong)

/- THE SECOND FORM. 'bulk': how many values and letters a reading holds, each counted each time it is reached (what is shared counts as often as it is met; a slice's spare places count too). A statement '..UptoSaid' is the law's where the arguments, and the package variables that the reading takes, are together of bulk at most 1048576: NARROWER than '..Said'. Prove '..Said' where nothing that the law and all that it calls make is longer than what came in: it says more and counts as full. Else prove '..UptoSaid'. A law counts once. -/
mutual
def uptoBulk {H : Type} : DataW H → Nat
  | .lit (.string bytes) => bytes.length + 1
  | .lit _ => 1
  | .nil => 1
  | .ptr d => uptoBulk d + 1
  | .slice elems spare => uptoBulkAll elems + uptoBulkAll spare + 1
  | .agg parts => uptoBulkAll parts + 1
  | .iface _ d => uptoBulk d + 1
  | .map entries => uptoBulkEntries entries + 1
  | .held _ => 1
def uptoBulkAll {H : Type} : List (DataW H) → Nat
  | [] => 0
  | d :: r => uptoBulk d + uptoBulkAll r
def uptoBulkEntries {H : Type} : List (Lit × DataW H) → Nat
  | [] => 0
  | x :: r => uptoBulkEntry x + uptoBulkEntries r
def uptoBulkEntry {H : Type} : Lit × DataW H → Nat
  | (.string bytes, d) => bytes.length + uptoBulk d + 1
  | (_, d) => uptoBulk d + 1
 end
def uptoSmall : (H : Type) → List (DataW H) → Bool := fun _ ds => decide (uptoBulkAll ds ≤ 1048576)
def OpenSpec.upto (s : _root_.Go.ChangeSpec) : _root_.Go.OpenSpec := { _root_.Go.OpenSpec.ofChange s with cond := some uptoSmall }

/-- 'ticketlinelaw18.MergePoor', WHERE WHAT IT READS IS OF BULK AT MOST 1048576: true; the input reads as it did. -/
def mergePoorUptoRow : OpenClaim := { program := "ytakncomdmgbjaaa", sum := "8960e1acbc7ec5518258bad9edc971b8b6dd9fa8a4f2ba20e29f62f0cf2bcb9f", func := "ticketline/ticketlinelaw18.MergePoor", spec := "mergePoor", inPlace := ["internal/bytealg.abigen_runtime_cmpstring"], apart := false, narrowed := true }
def MergePoorUptoSaid : Prop := mergePoorUptoRow.holds Try.pinned (OpenSpec.upto mergePoorSpec)

/-- 'ticketlinelaw18.MergePages', WHERE WHAT IT READS IS OF BULK AT MOST 1048576: true; the input reads as it did. -/
def mergePagesUptoRow : OpenClaim := { program := "ytakncomdmgbjaaa", sum := "8960e1acbc7ec5518258bad9edc971b8b6dd9fa8a4f2ba20e29f62f0cf2bcb9f", func := "ticketline/ticketlinelaw18.MergePages", spec := "mergePages", inPlace := ["internal/bytealg.abigen_runtime_cmpstring"], apart := false, narrowed := true }
def MergePagesUptoSaid : Prop := mergePagesUptoRow.holds Try.pinned (OpenSpec.upto mergePagesSpec)

/-- 'ticketlinelaw18.MergeRows', WHERE WHAT IT READS IS OF BULK AT MOST 1048576: true; the input reads as it did. -/
def mergeRowsUptoRow : OpenClaim := { program := "ytakncomdmgbjaaa", sum := "8960e1acbc7ec5518258bad9edc971b8b6dd9fa8a4f2ba20e29f62f0cf2bcb9f", func := "ticketline/ticketlinelaw18.MergeRows", spec := "mergeRows", inPlace := ["internal/bytealg.abigen_runtime_cmpstring"], apart := false, narrowed := true }
def MergeRowsUptoSaid : Prop := mergeRowsUptoRow.holds Try.pinned (OpenSpec.upto mergeRowsSpec)

/-- 'ticketlinelaw18.MergeSplits', WHERE WHAT IT READS IS OF BULK AT MOST 1048576: true; the input reads as it did. -/
def mergeSplitsUptoRow : OpenClaim := { program := "ytakncomdmgbjaaa", sum := "8960e1acbc7ec5518258bad9edc971b8b6dd9fa8a4f2ba20e29f62f0cf2bcb9f", func := "ticketline/ticketlinelaw18.MergeSplits", spec := "mergeSplits", inPlace := ["internal/bytealg.abigen_runtime_cmpstring"], apart := false, narrowed := true }
def MergeSplitsUptoSaid : Prop := mergeSplitsUptoRow.holds Try.pinned (OpenSpec.upto mergeSplitsSpec)

/-- 'ticketlinelaw18.MergeHolds', WHERE WHAT IT READS IS OF BULK AT MOST 1048576: true; the input reads as it did. -/
def mergeHoldsUptoRow : OpenClaim := { program := "ytakncomdmgbjaaa", sum := "8960e1acbc7ec5518258bad9edc971b8b6dd9fa8a4f2ba20e29f62f0cf2bcb9f", func := "ticketline/ticketlinelaw18.MergeHolds", spec := "mergeHolds", inPlace := ["internal/bytealg.abigen_runtime_cmpstring"], apart := false, narrowed := true }
def MergeHoldsUptoSaid : Prop := mergeHoldsUptoRow.holds Try.pinned (OpenSpec.upto mergeHoldsSpec)

end Rows
end Go.Proofs.Ytakncomdmgbjaaa
