/-
  No cell of these rows narrows 'for every input' (looked for: loops, veiled, ifaces, maps, wideKeys, modest, calm, conditions, laid).
  DERIVED. THE GIVEN ROWS OF THIS SEAT. 5 by the template 'for every input the law returns true; each argument reads behind the call as it read before'; 0 by the template 'total and deterministic' (their statements: YthecjidopkkecaaTotals.lean).
  GIVEN WITH THE SEED: the statements are not yours to turn. If you find one false, say at which input.
  Laid BY PROGRAM, IN A SANDBOX (cutbox-rows.mjs): the forced cells as the released guide's own fill.sh prints them over the translation 2980badc70617ac5… (all of the seat's roots in one cut). By AI agents, Wed Nov 11 2026. No macro, syntax, notation, axiom, sorry.
-/
import Derived.Test.YthecjidopkkecaaChecked
import GoSem.Claim
import GoSem.ClaimJoined
import GoSem.ClaimMapViews
import Derived.JoinedTies
import Derived.KernelRfl
namespace Go.Proofs.Ythecjidopkkecaa
/- THE CELL 'sum', in the pinned program and in every row, IS THE sha256 OF THE DUMP (.gsa) THAT YthecjidopkkecaaProg.lean LOADS. Nothing in Lean hashes anything: it is a label: what it is worth is what the hold of that sum in a sandbox is worth. -/
noncomputable def Try.pinned : Pinned := { name := "ythecjidopkkecaa", sum := "2980badc70617ac5a0497227ab7a93acc29e3859cbeb915f5b6f3561fb0882e0", checked := Try.checked }
namespace Rows
def none {H : Type} : Left H := { results := [], args := [] }

/-- 'ticketlinelaw19.FenceWheres': WHATEVER THE INPUT: true; the input reads as it did. -/
def fenceWheresSpec : ChangeSpec := { name := "fenceWheres", fn := fun _ => fun
  | [d1, d2] => { results := [.lit (.bool true)], args := [d1, d2] }
  | _ => none }
def fenceWheresRow : OpenClaim := { program := "ythecjidopkkecaa", sum := "2980badc70617ac5a0497227ab7a93acc29e3859cbeb915f5b6f3561fb0882e0", func := "ticketline/ticketlinelaw19.FenceWheres", spec := "fenceWheres", inPlace := ["internal/bytealg.abigen_runtime_cmpstring"], apart := false }
def FenceWheresSaid : Prop := fenceWheresRow.holds Try.pinned (OpenSpec.ofChange fenceWheresSpec)

/-- ITS FALSE NEIGHBOUR: 'it returns false'. Refute it at one input. -/
def fenceWheresWrong : ChangeSpec := { name := "fenceWheres", fn := fun _ => fun
  | [d1, d2] => { results := [.lit (.bool false)], args := [d1, d2] }
  | _ => none }
def FenceWheresWrongFalsely : Prop := fenceWheresRow.holds Try.pinned (OpenSpec.ofChange fenceWheresWrong)

/-- 'ticketlinelaw19.FenceNeighbours': WHATEVER THE INPUT: true; the input reads as it did. -/
def fenceNeighboursSpec : ChangeSpec := { name := "fenceNeighbours", fn := fun _ => fun
  | [d1, d2, d3] => { results := [.lit (.bool true)], args := [d1, d2, d3] }
  | _ => none }
def fenceNeighboursRow : OpenClaim := { program := "ythecjidopkkecaa", sum := "2980badc70617ac5a0497227ab7a93acc29e3859cbeb915f5b6f3561fb0882e0", func := "ticketline/ticketlinelaw19.FenceNeighbours", spec := "fenceNeighbours", inPlace := ["internal/bytealg.abigen_runtime_cmpstring"], apart := false }
def FenceNeighboursSaid : Prop := fenceNeighboursRow.holds Try.pinned (OpenSpec.ofChange fenceNeighboursSpec)

/-- ITS FALSE NEIGHBOUR: 'it returns false'. Refute it at one input. -/
def fenceNeighboursWrong : ChangeSpec := { name := "fenceNeighbours", fn := fun _ => fun
  | [d1, d2, d3] => { results := [.lit (.bool false)], args := [d1, d2, d3] }
  | _ => none }
def FenceNeighboursWrongFalsely : Prop := fenceNeighboursRow.holds Try.pinned (OpenSpec.ofChange fenceNeighboursWrong)

/-- 'ticketlinelaw19.FenceChildren': WHATEVER THE INPUT: true; the input reads as it did. -/
def fenceChildrenSpec : ChangeSpec := { name := "fenceChildren", fn := fun _ => fun
  | [d1, d2] => { results := [.lit (.bool true)], args := [d1, d2] }
  | _ => none }
def fenceChildrenRow : OpenClaim := { program := "ythecjidopkkecaa", sum := "2980badc70617ac5a0497227ab7a93acc29e3859cbeb915f5b6f3561fb0882e0", func := "ticketline/ticketlinelaw19.FenceChildren", spec := "fenceChildren", inPlace := ["internal/bytealg.abigen_runtime_cmpstring"], apart := false }
def FenceChildrenSaid : Prop := fenceChildrenRow.holds Try.pinned (OpenSpec.ofChange fenceChildrenSpec)

/-- ITS FALSE NEIGHBOUR: 'it returns false'. Refute it at one input. -/
def fenceChildrenWrong : ChangeSpec := { name := "fenceChildren", fn := fun _ => fun
  | [d1, d2] => { results := [.lit (.bool false)], args := [d1, d2] }
  | _ => none }
def FenceChildrenWrongFalsely : Prop := fenceChildrenRow.holds Try.pinned (OpenSpec.ofChange fenceChildrenWrong)

/-- 'ticketlinelaw19.FenceLinks': WHATEVER THE INPUT: true; the input reads as it did. -/
def fenceLinksSpec : ChangeSpec := { name := "fenceLinks", fn := fun _ => fun
  | [d1, d2, d3] => { results := [.lit (.bool true)], args := [d1, d2, d3] }
  | _ => none }
def fenceLinksRow : OpenClaim := { program := "ythecjidopkkecaa", sum := "2980badc70617ac5a0497227ab7a93acc29e3859cbeb915f5b6f3561fb0882e0", func := "ticketline/ticketlinelaw19.FenceLinks", spec := "fenceLinks", inPlace := ["internal/bytealg.abigen_runtime_cmpstring"], apart := false }
def FenceLinksSaid : Prop := fenceLinksRow.holds Try.pinned (OpenSpec.ofChange fenceLinksSpec)

/-- ITS FALSE NEIGHBOUR: 'it returns false'. Refute it at one input. -/
def fenceLinksWrong : ChangeSpec := { name := "fenceLinks", fn := fun _ => fun
  | [d1, d2, d3] => { results := [.lit (.bool false)], args := [d1, d2, d3] }
  | _ => none }
def FenceLinksWrongFalsely : Prop := fenceLinksRow.holds Try.pinned (OpenSpec.ofChange fenceLinksWrong)

/-- 'ticketlinelaw19.FenceHolds': WHATEVER THE INPUT: true; the input reads as it did. -/
def fenceHoldsSpec : ChangeSpec := { name := "fenceHolds", fn := fun _ => fun
  | [d1, d2, d3, d4, d5] => { results := [.lit (.bool true)], args := [d1, d2, d3, d4, d5] }
  | _ => none }
def fenceHoldsRow : OpenClaim := { program := "ythecjidopkkecaa", sum := "2980badc70617ac5a0497227ab7a93acc29e3859cbeb915f5b6f3561fb0882e0", func := "ticketline/ticketlinelaw19.FenceHolds", spec := "fenceHolds", inPlace := ["internal/bytealg.abigen_runtime_cmpstring"], apart := false }
def FenceHoldsSaid : Prop := fenceHoldsRow.holds Try.pinned (OpenSpec.ofChange fenceHoldsSpec)

/-- ITS FALSE NEIGHBOUR: 'it returns false'. Refute it at one input. -/
def fenceHoldsWrong : ChangeSpec := { name := "fenceHolds", fn := fun _ => fun
  | [d1, d2, d3, d4, d5] => { results := [.lit (.bool false)], args := [d1, d2, d3, d4, d5] }
  | _ => none }
def FenceHoldsWrongFalsely : Prop := fenceHoldsRow.holds Try.pinned (OpenSpec.ofChange fenceHoldsWrong)

/- THE SECOND FORM. 'bulk': how many values and letters a reading holds, each counted each time it is reached (what is shared counts as often as it is met; a slice's spare places count too). A statement '..UptoSaid' is the law's where the arguments, and the package variables that the reading takes, are together of bulk at most 1048576: NARROWER than '..Said'. Prove '..Said' where nothing that the law and all that it calls make is longer than what came in: it says more and counts as full. Else prove '..UptoSaid'. A law counts once. -/
mutual
def uptoBulk {H : Type} : DataW H → Nat
  | .lit (.string bytes) => bytes.length + 1
  | .lit _ => 1
  | .nil => 1
  | .ptr d => uptoBulk d + 1
  | .slice elems spare => uptoBulkAll elems + uptoBulkAll spare + 1
  | .agg parts => uptoBulkAll parts + 1
  | .iface _ d => uptoBulk d + 1
  | .map entries => uptoBulkEntries entries + 1
  | .held _ => 1
def uptoBulkAll {H : Type} : List (DataW H) → Nat
  | [] => 0
  | d :: r => uptoBulk d + uptoBulkAll r
def uptoBulkEntries {H : Type} : List (Lit × DataW H) → Nat
  | [] => 0
  | x :: r => uptoBulkEntry x + uptoBulkEntries r
def uptoBulkEntry {H : Type} : Lit × DataW H → Nat
  | (.string bytes, d) => bytes.length + uptoBulk d + 1
  | (_, d) => uptoBulk d + 1
 end
def uptoSmall : (H : Type) → List (DataW H) → Bool := fun _ ds => decide (uptoBulkAll ds ≤ 1048576)
def OpenSpec.upto (s : _root_.Go.ChangeSpec) : _root_.Go.OpenSpec := { _root_.Go.OpenSpec.ofChange s with cond := some uptoSmall }

/-- 'ticketlinelaw19.FenceWheres', WHERE WHAT IT READS IS OF BULK AT MOST 1048576: true; the input reads as it did. -/
def fenceWheresUptoRow : OpenClaim := { program := "ythecjidopkkecaa", sum := "2980badc70617ac5a0497227ab7a93acc29e3859cbeb915f5b6f3561fb0882e0", func := "ticketline/ticketlinelaw19.FenceWheres", spec := "fenceWheres", inPlace := ["internal/bytealg.abigen_runtime_cmpstring"], apart := false, narrowed := true }
def FenceWheresUptoSaid : Prop := fenceWheresUptoRow.holds Try.pinned (OpenSpec.upto fenceWheresSpec)

/-- 'ticketlinelaw19.FenceNeighbours', WHERE WHAT IT READS IS OF BULK AT MOST 1048576: true; the input reads as it did. -/
def fenceNeighboursUptoRow : OpenClaim := { program := "ythecjidopkkecaa", sum := "2980badc70617ac5a0497227ab7a93acc29e3859cbeb915f5b6f3561fb0882e0", func := "ticketline/ticketlinelaw19.FenceNeighbours", spec := "fenceNeighbours", inPlace := ["internal/bytealg.abigen_runtime_cmpstring"], apart := false, narrowed := true }
def FenceNeighboursUptoSaid : Prop := fenceNeighboursUptoRow.holds Try.pinned (OpenSpec.upto fenceNeighboursSpec)

/-- 'ticketlinelaw19.FenceChildren', WHERE WHAT IT READS IS OF BULK AT MOST 1048576: true; the input reads as it did. -/
def fenceChildrenUptoRow : OpenClaim := { program := "ythecjidopkkecaa", sum := "2980badc70617ac5a0497227ab7a93acc29e3859cbeb915f5b6f3561fb0882e0", func := "ticketline/ticketlinelaw19.FenceChildren", spec := "fenceChildren", inPlace := ["internal/bytealg.abigen_runtime_cmpstring"], apart := false, narrowed := true }
def FenceChildrenUptoSaid : Prop := fenceChildrenUptoRow.holds Try.pinned (OpenSpec.upto fenceChildrenSpec)

/-- 'ticketlinelaw19.FenceLinks', WHERE WHAT IT READS IS OF BULK AT MOST 1048576: true; the input reads as it did. -/
def fenceLinksUptoRow : OpenClaim := { program := "ythecjidopkkecaa", sum := "2980badc70617ac5a0497227ab7a93acc29e3859cbeb915f5b6f3561fb0882e0", func := "ticketline/ticketlinelaw19.FenceLinks", spec := "fenceLinks", inPlace := ["internal/bytealg.abigen_runtime_cmpstring"], apart := false, narrowed := true }
def FenceLinksUptoSaid : Prop := fenceLinksUptoRow.holds Try.pinned (OpenSpec.upto fenceLinksSpec)

/-- 'ticketlinelaw19.FenceHolds', WHERE WHAT IT READS IS OF BULK AT MOST 1048576: true; the input reads as it did. -/
def fenceHoldsUptoRow : OpenClaim := { program := "ythecjidopkkecaa", sum := "2980badc70617ac5a0497227ab7a93acc29e3859cbeb915f5b6f3561fb0882e0", func := "ticketline/ticketlinelaw19.FenceHolds", spec := "fenceHolds", inPlace := ["internal/bytealg.abigen_runtime_cmpstring"], apart := false, narrowed := true }
def FenceHoldsUptoSaid : Prop := fenceHoldsUptoRow.holds Try.pinned (OpenSpec.upto fenceHoldsSpec)

end Rows
end Go.Proofs.Ythecjidopkkecaa
