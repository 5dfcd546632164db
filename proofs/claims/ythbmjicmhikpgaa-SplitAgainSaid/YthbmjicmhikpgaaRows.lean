/-
  No cell of these rows narrows 'for every input' (looked for: loops, veiled, ifaces, maps, wideKeys, modest, calm, conditions, laid).
  DERIVED. THE GIVEN ROWS OF THIS SEAT. 5 by the template 'for every input the law returns true; each argument reads behind the call as it read before'; 0 by the template 'total and deterministic' (their statements: YthbmjicmhikpgaaTotals.lean).
  GIVEN WITH THE SEED: the statements are not yours to turn. If you find one false, say at which input.
  Laid BY PROGRAM, IN A SANDBOX (cutbox-rows.mjs): the forced cells as the released guide's own fill.sh prints them over the translation 9b7747e98f89fab1… (all of the seat's roots in one cut). By AI agents, Wed Nov 11 2026. No macro, syntax, notation, axiom, sorry.
-/
import Derived.Test.YthbmjicmhikpgaaChecked
import GoSem.Claim
import GoSem.ClaimJoined
import GoSem.ClaimMapViews
import Derived.JoinedTies
import Derived.KernelRfl
namespace Go.Proofs.Ythbmjicmhikpgaa
/- THE CELL 'sum', in the pinned program and in every row, IS THE sha256 OF THE DUMP (.gsa) THAT YthbmjicmhikpgaaProg.lean LOADS. Nothing in Lean hashes anything: it is a label: what it is worth is what the hold of that sum in a sandbox is worth. -/
noncomputable def Try.pinned : Pinned := { name := "ythbmjicmhikpgaa", sum := "9b7747e98f89fab14712edb10d2d71c5c4a11d6f9e21a2babbe5522037adad42", checked := Try.checked }
namespace Rows
def none {H : Type} : Left H := { results := [], args := [] }

/-- 'ticketlinelaw17.SplitPlaces': WHATEVER THE INPUT: true; the input reads as it did. -/
def splitPlacesSpec : ChangeSpec := { name := "splitPlaces", fn := fun _ => fun
  | [d] => { results := [.lit (.bool true)], args := [d] }
  | _ => none }
def splitPlacesRow : OpenClaim := { program := "ythbmjicmhikpgaa", sum := "9b7747e98f89fab14712edb10d2d71c5c4a11d6f9e21a2babbe5522037adad42", func := "ticketline/ticketlinelaw17.SplitPlaces", spec := "splitPlaces", inPlace := ["internal/bytealg.abigen_runtime_cmpstring"], apart := false }
def SplitPlacesSaid : Prop := splitPlacesRow.holds Try.pinned (OpenSpec.ofChange splitPlacesSpec)

/-- ITS FALSE NEIGHBOUR: 'it returns false'. Refute it at one input. -/
def splitPlacesWrong : ChangeSpec := { name := "splitPlaces", fn := fun _ => fun
  | [d] => { results := [.lit (.bool false)], args := [d] }
  | _ => none }
def SplitPlacesWrongFalsely : Prop := splitPlacesRow.holds Try.pinned (OpenSpec.ofChange splitPlacesWrong)

/-- 'ticketlinelaw17.SplitHalves': WHATEVER THE INPUT: true; the input reads as it did. -/
def splitHalvesSpec : ChangeSpec := { name := "splitHalves", fn := fun _ => fun
  | [d1, d2] => { results := [.lit (.bool true)], args := [d1, d2] }
  | _ => none }
def splitHalvesRow : OpenClaim := { program := "ythbmjicmhikpgaa", sum := "9b7747e98f89fab14712edb10d2d71c5c4a11d6f9e21a2babbe5522037adad42", func := "ticketline/ticketlinelaw17.SplitHalves", spec := "splitHalves", inPlace := ["internal/bytealg.abigen_runtime_cmpstring"], apart := false }
def SplitHalvesSaid : Prop := splitHalvesRow.holds Try.pinned (OpenSpec.ofChange splitHalvesSpec)

/-- ITS FALSE NEIGHBOUR: 'it returns false'. Refute it at one input. -/
def splitHalvesWrong : ChangeSpec := { name := "splitHalves", fn := fun _ => fun
  | [d1, d2] => { results := [.lit (.bool false)], args := [d1, d2] }
  | _ => none }
def SplitHalvesWrongFalsely : Prop := splitHalvesRow.holds Try.pinned (OpenSpec.ofChange splitHalvesWrong)

/-- 'ticketlinelaw17.SplitRoots': WHATEVER THE INPUT: true; the input reads as it did. -/
def splitRootsSpec : ChangeSpec := { name := "splitRoots", fn := fun _ => fun
  | [d1, d2, d3, d4] => { results := [.lit (.bool true)], args := [d1, d2, d3, d4] }
  | _ => none }
def splitRootsRow : OpenClaim := { program := "ythbmjicmhikpgaa", sum := "9b7747e98f89fab14712edb10d2d71c5c4a11d6f9e21a2babbe5522037adad42", func := "ticketline/ticketlinelaw17.SplitRoots", spec := "splitRoots", inPlace := ["internal/bytealg.abigen_runtime_cmpstring"], apart := false }
def SplitRootsSaid : Prop := splitRootsRow.holds Try.pinned (OpenSpec.ofChange splitRootsSpec)

/-- ITS FALSE NEIGHBOUR: 'it returns false'. Refute it at one input. -/
def splitRootsWrong : ChangeSpec := { name := "splitRoots", fn := fun _ => fun
  | [d1, d2, d3, d4] => { results := [.lit (.bool false)], args := [d1, d2, d3, d4] }
  | _ => none }
def SplitRootsWrongFalsely : Prop := splitRootsRow.holds Try.pinned (OpenSpec.ofChange splitRootsWrong)

/-- 'ticketlinelaw17.SplitAgain': WHATEVER THE INPUT: true; the input reads as it did. -/
def splitAgainSpec : ChangeSpec := { name := "splitAgain", fn := fun _ => fun
  | [d1, d2] => { results := [.lit (.bool true)], args := [d1, d2] }
  | _ => none }
def splitAgainRow : OpenClaim := { program := "ythbmjicmhikpgaa", sum := "9b7747e98f89fab14712edb10d2d71c5c4a11d6f9e21a2babbe5522037adad42", func := "ticketline/ticketlinelaw17.SplitAgain", spec := "splitAgain", inPlace := ["internal/bytealg.abigen_runtime_cmpstring"], apart := false }
def SplitAgainSaid : Prop := splitAgainRow.holds Try.pinned (OpenSpec.ofChange splitAgainSpec)

/-- ITS FALSE NEIGHBOUR: 'it returns false'. Refute it at one input. -/
def splitAgainWrong : ChangeSpec := { name := "splitAgain", fn := fun _ => fun
  | [d1, d2] => { results := [.lit (.bool false)], args := [d1, d2] }
  | _ => none }
def SplitAgainWrongFalsely : Prop := splitAgainRow.holds Try.pinned (OpenSpec.ofChange splitAgainWrong)

/-- 'ticketlinelaw17.SplitHolds': WHATEVER THE INPUT: true; the input reads as it did. -/
def splitHoldsSpec : ChangeSpec := { name := "splitHolds", fn := fun _ => fun
  | [d1, d2] => { results := [.lit (.bool true)], args := [d1, d2] }
  | _ => none }
def splitHoldsRow : OpenClaim := { program := "ythbmjicmhikpgaa", sum := "9b7747e98f89fab14712edb10d2d71c5c4a11d6f9e21a2babbe5522037adad42", func := "ticketline/ticketlinelaw17.SplitHolds", spec := "splitHolds", inPlace := ["internal/bytealg.abigen_runtime_cmpstring"], apart := false }
def SplitHoldsSaid : Prop := splitHoldsRow.holds Try.pinned (OpenSpec.ofChange splitHoldsSpec)

/-- ITS FALSE NEIGHBOUR: 'it returns false'. Refute it at one input. -/
def splitHoldsWrong : ChangeSpec := { name := "splitHolds", fn := fun _ => fun
  | [d1, d2] => { results := [.lit (.bool false)], args := [d1, d2] }
  | _ => none }
def SplitHoldsWrongFalsely : Prop := splitHoldsRow.holds Try.pinned (OpenSpec.ofChange splitHoldsWrong)

/- THE SECOND FORM. 'bulk': how many values and letters a reading holds, each counted each time it is reached (what is shared counts as often as it is met; a slice's spare places count too). A statement '..UptoSaid' is the law's where the arguments, and the package variables that the reading takes, are together of bulk at most 1048576: NARROWER than '..Said'. Prove '..Said' where nothing that the law and all that it calls make is longer than what came in: it says more and counts as full. Else prove '..UptoSaid'. A law counts once. -/
mutual
def uptoBulk {H : Type} : DataW H → Nat
  | .lit (.string bytes) => bytes.length + 1
  | .lit _ => 1
  | .nil => 1
  | .ptr d => uptoBulk d + 1
  | .slice elems spare => uptoBulkAll elems + uptoBulkAll spare + 1
  | .agg parts => uptoBulkAll parts + 1
  | .iface _ d => uptoBulk d + 1
  | .map entries => uptoBulkEntries entries + 1
  | .held _ => 1
def uptoBulkAll {H : Type} : List (DataW H) → Nat
  | [] => 0
  | d :: r => uptoBulk d + uptoBulkAll r
def uptoBulkEntries {H : Type} : List (Lit × DataW H) → Nat
  | [] => 0
  | x :: r => uptoBulkEntry x + uptoBulkEntries r
def uptoBulkEntry {H : Type} : Lit × DataW H → Nat
  | (.string bytes, d) => bytes.length + uptoBulk d + 1
  | (_, d) => uptoBulk d + 1
 end
def uptoSmall : (H : Type) → List (DataW H) → Bool := fun _ ds => decide (uptoBulkAll ds ≤ 1048576)
def OpenSpec.upto (s : _root_.Go.ChangeSpec) : _root_.Go.OpenSpec := { _root_.Go.OpenSpec.ofChange s with cond := some uptoSmall }

/-- 'ticketlinelaw17.SplitPlaces', WHERE WHAT IT READS IS OF BULK AT MOST 1048576: true; the input reads as it did. -/
def splitPlacesUptoRow : OpenClaim := { program := "ythbmjicmhikpgaa", sum := "9b7747e98f89fab14712edb10d2d71c5c4a11d6f9e21a2babbe5522037adad42", func := "ticketline/ticketlinelaw17.SplitPlaces", spec := "splitPlaces", inPlace := ["internal/bytealg.abigen_runtime_cmpstring"], apart := false, narrowed := true }
def SplitPlacesUptoSaid : Prop := splitPlacesUptoRow.holds Try.pinned (OpenSpec.upto splitPlacesSpec)

/-- 'ticketlinelaw17.SplitHalves', WHERE WHAT IT READS IS OF BULK AT MOST 1048576: true; the input reads as it did. -/
def splitHalvesUptoRow : OpenClaim := { program := "ythbmjicmhikpgaa", sum := "9b7747e98f89fab14712edb10d2d71c5c4a11d6f9e21a2babbe5522037adad42", func := "ticketline/ticketlinelaw17.SplitHalves", spec := "splitHalves", inPlace := ["internal/bytealg.abigen_runtime_cmpstring"], apart := false, narrowed := true }
def SplitHalvesUptoSaid : Prop := splitHalvesUptoRow.holds Try.pinned (OpenSpec.upto splitHalvesSpec)

/-- 'ticketlinelaw17.SplitRoots', WHERE WHAT IT READS IS OF BULK AT MOST 1048576: true; the input reads as it did. -/
def splitRootsUptoRow : OpenClaim := { program := "ythbmjicmhikpgaa", sum := "9b7747e98f89fab14712edb10d2d71c5c4a11d6f9e21a2babbe5522037adad42", func := "ticketline/ticketlinelaw17.SplitRoots", spec := "splitRoots", inPlace := ["internal/bytealg.abigen_runtime_cmpstring"], apart := false, narrowed := true }
def SplitRootsUptoSaid : Prop := splitRootsUptoRow.holds Try.pinned (OpenSpec.upto splitRootsSpec)

/-- 'ticketlinelaw17.SplitAgain', WHERE WHAT IT READS IS OF BULK AT MOST 1048576: true; the input reads as it did. -/
def splitAgainUptoRow : OpenClaim := { program := "ythbmjicmhikpgaa", sum := "9b7747e98f89fab14712edb10d2d71c5c4a11d6f9e21a2babbe5522037adad42", func := "ticketline/ticketlinelaw17.SplitAgain", spec := "splitAgain", inPlace := ["internal/bytealg.abigen_runtime_cmpstring"], apart := false, narrowed := true }
def SplitAgainUptoSaid : Prop := splitAgainUptoRow.holds Try.pinned (OpenSpec.upto splitAgainSpec)

/-- 'ticketlinelaw17.SplitHolds', WHERE WHAT IT READS IS OF BULK AT MOST 1048576: true; the input reads as it did. -/
def splitHoldsUptoRow : OpenClaim := { program := "ythbmjicmhikpgaa", sum := "9b7747e98f89fab14712edb10d2d71c5c4a11d6f9e21a2babbe5522037adad42", func := "ticketline/ticketlinelaw17.SplitHolds", spec := "splitHolds", inPlace := ["internal/bytealg.abigen_runtime_cmpstring"], apart := false, narrowed := true }
def SplitHoldsUptoSaid : Prop := splitHoldsUptoRow.holds Try.pinned (OpenSpec.upto splitHoldsSpec)

end Rows
end Go.Proofs.Ythbmjicmhikpgaa
