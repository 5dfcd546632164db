/-
  No cell of these rows narrows 'for every input' (looked for: loops, veiled, ifaces, maps, wideKeys, modest, calm, conditions, laid).
  DERIVED. THE GIVEN ROWS OF THIS SEAT. 5 by the template 'for every input the law returns true; each argument reads behind the call as it read before'; 0 by the template 'total and deterministic' (their statements: YtmageoiakgcgmaaTotals.lean).
  GIVEN WITH THE SEED: the statements are not yours to turn. If you find one false, say at which input.
  Laid BY PROGRAM, IN A SANDBOX (cutbox-rows.mjs): the forced cells as the released guide's own fill.sh prints them over the translation 6d4ff29df9a07870… (all of the seat's roots in one cut). By AI agents, Wed Nov 11 2026. No macro, syntax, notation, axiom, sorry.
-/
import Derived.Test.YtmageoiakgcgmaaChecked
import GoSem.Claim
import GoSem.ClaimJoined
import GoSem.ClaimMapViews
import Derived.JoinedTies
import Derived.KernelRfl
namespace Go.Proofs.Ytmageoiakgcgmaa
/- THE CELL 'sum', in the pinned program and in every row, IS THE sha256 OF THE DUMP (.gsa) THAT YtmageoiakgcgmaaProg.lean LOADS. Nothing in Lean hashes anything: it is a label: what it is worth is what the hold of that sum in a sandbox is worth. -/
noncomputable def Try.pinned : Pinned := { name := "ytmageoiakgcgmaa", sum := "6d4ff29df9a07870d55eb40daa308c92d4270ba4f8c54f15da335fedf442e7bc", checked := Try.checked }
namespace Rows
def none {H : Type} : Left H := { results := [], args := [] }

/-- 'ticketlinelaw05.KeysOrders': WHATEVER THE INPUT: true; the input reads as it did. -/
def keysOrdersSpec : ChangeSpec := { name := "keysOrders", fn := fun _ => fun
  | [d1, d2] => { results := [.lit (.bool true)], args := [d1, d2] }
  | _ => none }
def keysOrdersRow : OpenClaim := { program := "ytmageoiakgcgmaa", sum := "6d4ff29df9a07870d55eb40daa308c92d4270ba4f8c54f15da335fedf442e7bc", func := "ticketline/ticketlinelaw05.KeysOrders", spec := "keysOrders", inPlace := ["internal/abi.NoEscape", "internal/bytealg.MakeNoZero", "internal/bytealg.abigen_runtime_cmpstring"], apart := false }
def KeysOrdersSaid : Prop := keysOrdersRow.holds Try.pinned (OpenSpec.ofChange keysOrdersSpec)

/-- ITS FALSE NEIGHBOUR: 'it returns false'. Refute it at one input. -/
def keysOrdersWrong : ChangeSpec := { name := "keysOrders", fn := fun _ => fun
  | [d1, d2] => { results := [.lit (.bool false)], args := [d1, d2] }
  | _ => none }
def KeysOrdersWrongFalsely : Prop := keysOrdersRow.holds Try.pinned (OpenSpec.ofChange keysOrdersWrong)

/-- 'ticketlinelaw05.KeysPacks': WHATEVER THE INPUT: true; the input reads as it did. -/
def keysPacksSpec : ChangeSpec := { name := "keysPacks", fn := fun _ => fun
  | [d1, d2] => { results := [.lit (.bool true)], args := [d1, d2] }
  | _ => none }
def keysPacksRow : OpenClaim := { program := "ytmageoiakgcgmaa", sum := "6d4ff29df9a07870d55eb40daa308c92d4270ba4f8c54f15da335fedf442e7bc", func := "ticketline/ticketlinelaw05.KeysPacks", spec := "keysPacks", inPlace := ["internal/abi.NoEscape", "internal/bytealg.MakeNoZero", "internal/bytealg.abigen_runtime_cmpstring"], apart := false }
def KeysPacksSaid : Prop := keysPacksRow.holds Try.pinned (OpenSpec.ofChange keysPacksSpec)

/-- ITS FALSE NEIGHBOUR: 'it returns false'. Refute it at one input. -/
def keysPacksWrong : ChangeSpec := { name := "keysPacks", fn := fun _ => fun
  | [d1, d2] => { results := [.lit (.bool false)], args := [d1, d2] }
  | _ => none }
def KeysPacksWrongFalsely : Prop := keysPacksRow.holds Try.pinned (OpenSpec.ofChange keysPacksWrong)

/-- 'ticketlinelaw05.KeysUnpacks': WHATEVER THE INPUT: true; the input reads as it did. -/
def keysUnpacksSpec : ChangeSpec := { name := "keysUnpacks", fn := fun _ => fun
  | [d1, d2] => { results := [.lit (.bool true)], args := [d1, d2] }
  | _ => none }
def keysUnpacksRow : OpenClaim := { program := "ytmageoiakgcgmaa", sum := "6d4ff29df9a07870d55eb40daa308c92d4270ba4f8c54f15da335fedf442e7bc", func := "ticketline/ticketlinelaw05.KeysUnpacks", spec := "keysUnpacks", inPlace := ["internal/abi.NoEscape", "internal/bytealg.MakeNoZero", "internal/bytealg.abigen_runtime_cmpstring"], apart := false }
def KeysUnpacksSaid : Prop := keysUnpacksRow.holds Try.pinned (OpenSpec.ofChange keysUnpacksSpec)

/-- ITS FALSE NEIGHBOUR: 'it returns false'. Refute it at one input. -/
def keysUnpacksWrong : ChangeSpec := { name := "keysUnpacks", fn := fun _ => fun
  | [d1, d2] => { results := [.lit (.bool false)], args := [d1, d2] }
  | _ => none }
def KeysUnpacksWrongFalsely : Prop := keysUnpacksRow.holds Try.pinned (OpenSpec.ofChange keysUnpacksWrong)

/-- 'ticketlinelaw05.KeysNexts': WHATEVER THE INPUT: true; the input reads as it did. -/
def keysNextsSpec : ChangeSpec := { name := "keysNexts", fn := fun _ => fun
  | [d1, d2] => { results := [.lit (.bool true)], args := [d1, d2] }
  | _ => none }
def keysNextsRow : OpenClaim := { program := "ytmageoiakgcgmaa", sum := "6d4ff29df9a07870d55eb40daa308c92d4270ba4f8c54f15da335fedf442e7bc", func := "ticketline/ticketlinelaw05.KeysNexts", spec := "keysNexts", inPlace := ["internal/abi.NoEscape", "internal/bytealg.MakeNoZero", "internal/bytealg.abigen_runtime_cmpstring"], apart := false }
def KeysNextsSaid : Prop := keysNextsRow.holds Try.pinned (OpenSpec.ofChange keysNextsSpec)

/-- ITS FALSE NEIGHBOUR: 'it returns false'. Refute it at one input. -/
def keysNextsWrong : ChangeSpec := { name := "keysNexts", fn := fun _ => fun
  | [d1, d2] => { results := [.lit (.bool false)], args := [d1, d2] }
  | _ => none }
def KeysNextsWrongFalsely : Prop := keysNextsRow.holds Try.pinned (OpenSpec.ofChange keysNextsWrong)

/-- 'ticketlinelaw05.KeysHolds': WHATEVER THE INPUT: true; the input reads as it did. -/
def keysHoldsSpec : ChangeSpec := { name := "keysHolds", fn := fun _ => fun
  | [d1, d2, d3] => { results := [.lit (.bool true)], args := [d1, d2, d3] }
  | _ => none }
def keysHoldsRow : OpenClaim := { program := "ytmageoiakgcgmaa", sum := "6d4ff29df9a07870d55eb40daa308c92d4270ba4f8c54f15da335fedf442e7bc", func := "ticketline/ticketlinelaw05.KeysHolds", spec := "keysHolds", inPlace := ["internal/abi.NoEscape", "internal/bytealg.MakeNoZero", "internal/bytealg.abigen_runtime_cmpstring"], apart := false }
def KeysHoldsSaid : Prop := keysHoldsRow.holds Try.pinned (OpenSpec.ofChange keysHoldsSpec)

/-- ITS FALSE NEIGHBOUR: 'it returns false'. Refute it at one input. -/
def keysHoldsWrong : ChangeSpec := { name := "keysHolds", fn := fun _ => fun
  | [d1, d2, d3] => { results := [.lit (.bool false)], args := [d1, d2, d3] }
  | _ => none }
def KeysHoldsWrongFalsely : Prop := keysHoldsRow.holds Try.pinned (OpenSpec.ofChange keysHoldsWrong)

/- THE SECOND FORM. 'bulk': how many values and letters a reading holds, each counted each time it is reached (what is shared counts as often as it is met; a slice's spare places count too). A statement '..UptoSaid' is the law's where the arguments, and the package variables that the reading takes, are together of bulk at most 1048576: NARROWER than '..Said'. Prove '..Said' where nothing that the law and all that it calls make is longer than what came in: it says more and counts as full. Else prove '..UptoSaid'. A law counts once. -/
mutual
def uptoBulk {H : Type} : DataW H → Nat
  | .lit (.string bytes) => bytes.length + 1
  | .lit _ => 1
  | .nil => 1
  | .ptr d => uptoBulk d + 1
  | .slice elems spare => uptoBulkAll elems + uptoBulkAll spare + 1
  | .agg parts => uptoBulkAll parts + 1
  | .iface _ d => uptoBulk d + 1
  | .map entries => uptoBulkEntries entries + 1
  | .held _ => 1
def uptoBulkAll {H : Type} : List (DataW H) → Nat
  | [] => 0
  | d :: r => uptoBulk d + uptoBulkAll r
def uptoBulkEntries {H : Type} : List (Lit × DataW H) → Nat
  | [] => 0
  | x :: r => uptoBulkEntry x + uptoBulkEntries r
def uptoBulkEntry {H : Type} : Lit × DataW H → Nat
  | (.string bytes, d) => bytes.length + uptoBulk d + 1
  | (_, d) => uptoBulk d + 1
 end
def uptoSmall : (H : Type) → List (DataW H) → Bool := fun _ ds => decide (uptoBulkAll ds ≤ 1048576)
def OpenSpec.upto (s : _root_.Go.ChangeSpec) : _root_.Go.OpenSpec := { _root_.Go.OpenSpec.ofChange s with cond := some uptoSmall }

/-- 'ticketlinelaw05.KeysOrders', WHERE WHAT IT READS IS OF BULK AT MOST 1048576: true; the input reads as it did. -/
def keysOrdersUptoRow : OpenClaim := { program := "ytmageoiakgcgmaa", sum := "6d4ff29df9a07870d55eb40daa308c92d4270ba4f8c54f15da335fedf442e7bc", func := "ticketline/ticketlinelaw05.KeysOrders", spec := "keysOrders", inPlace := ["internal/abi.NoEscape", "internal/bytealg.MakeNoZero", "internal/bytealg.abigen_runtime_cmpstring"], apart := false, narrowed := true }
def KeysOrdersUptoSaid : Prop := keysOrdersUptoRow.holds Try.pinned (OpenSpec.upto keysOrdersSpec)

/-- 'ticketlinelaw05.KeysPacks', WHERE WHAT IT READS IS OF BULK AT MOST 1048576: true; the input reads as it did. -/
def keysPacksUptoRow : OpenClaim := { program := "ytmageoiakgcgmaa", sum := "6d4ff29df9a07870d55eb40daa308c92d4270ba4f8c54f15da335fedf442e7bc", func := "ticketline/ticketlinelaw05.KeysPacks", spec := "keysPacks", inPlace := ["internal/abi.NoEscape", "internal/bytealg.MakeNoZero", "internal/bytealg.abigen_runtime_cmpstring"], apart := false, narrowed := true }
def KeysPacksUptoSaid : Prop := keysPacksUptoRow.holds Try.pinned (OpenSpec.upto keysPacksSpec)

/-- 'ticketlinelaw05.KeysUnpacks', WHERE WHAT IT READS IS OF BULK AT MOST 1048576: true; the input reads as it did. -/
def keysUnpacksUptoRow : OpenClaim := { program := "ytmageoiakgcgmaa", sum := "6d4ff29df9a07870d55eb40daa308c92d4270ba4f8c54f15da335fedf442e7bc", func := "ticketline/ticketlinelaw05.KeysUnpacks", spec := "keysUnpacks", inPlace := ["internal/abi.NoEscape", "internal/bytealg.MakeNoZero", "internal/bytealg.abigen_runtime_cmpstring"], apart := false, narrowed := true }
def KeysUnpacksUptoSaid : Prop := keysUnpacksUptoRow.holds Try.pinned (OpenSpec.upto keysUnpacksSpec)

/-- 'ticketlinelaw05.KeysNexts', WHERE WHAT IT READS IS OF BULK AT MOST 1048576: true; the input reads as it did. -/
def keysNextsUptoRow : OpenClaim := { program := "ytmageoiakgcgmaa", sum := "6d4ff29df9a07870d55eb40daa308c92d4270ba4f8c54f15da335fedf442e7bc", func := "ticketline/ticketlinelaw05.KeysNexts", spec := "keysNexts", inPlace := ["internal/abi.NoEscape", "internal/bytealg.MakeNoZero", "internal/bytealg.abigen_runtime_cmpstring"], apart := false, narrowed := true }
def KeysNextsUptoSaid : Prop := keysNextsUptoRow.holds Try.pinned (OpenSpec.upto keysNextsSpec)

/-- 'ticketlinelaw05.KeysHolds', WHERE WHAT IT READS IS OF BULK AT MOST 1048576: true; the input reads as it did. -/
def keysHoldsUptoRow : OpenClaim := { program := "ytmageoiakgcgmaa", sum := "6d4ff29df9a07870d55eb40daa308c92d4270ba4f8c54f15da335fedf442e7bc", func := "ticketline/ticketlinelaw05.KeysHolds", spec := "keysHolds", inPlace := ["internal/abi.NoEscape", "internal/bytealg.MakeNoZero", "internal/bytealg.abigen_runtime_cmpstring"], apart := false, narrowed := true }
def KeysHoldsUptoSaid : Prop := keysHoldsUptoRow.holds Try.pinned (OpenSpec.upto keysHoldsSpec)

end Rows
end Go.Proofs.Ytmageoiakgcgmaa
