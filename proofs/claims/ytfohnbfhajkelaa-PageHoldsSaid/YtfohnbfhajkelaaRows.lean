/-
  No cell of these rows narrows 'for every input' (looked for: loops, veiled, ifaces, maps, wideKeys, modest, calm, conditions, laid).
  DERIVED. THE GIVEN ROWS OF THIS SEAT. 6 by the template 'for every input the law returns true; each argument reads behind the call as it read before'; 0 by the template 'total and deterministic' (their statements: YtfohnbfhajkelaaTotals.lean).
  GIVEN WITH THE SEED: the statements are not yours to turn. If you find one false, say at which input.
  Laid BY PROGRAM, IN A SANDBOX (cutbox-rows.mjs): the forced cells as the released guide's own fill.sh prints them over the translation 0ad78cea3891868f… (all of the seat's roots in one cut). By AI agents, Wed Nov 11 2026. No macro, syntax, notation, axiom, sorry.
-/
import Derived.Test.YtfohnbfhajkelaaChecked
import GoSem.Claim
import GoSem.ClaimJoined
import GoSem.ClaimMapViews
import Derived.JoinedTies
import Derived.KernelRfl
namespace Go.Proofs.Ytfohnbfhajkelaa
/- THE CELL 'sum', in the pinned program and in every row, IS THE sha256 OF THE DUMP (.gsa) THAT YtfohnbfhajkelaaProg.lean LOADS. Nothing in Lean hashes anything: it is a label: what it is worth is what the hold of that sum in a sandbox is worth. -/
noncomputable def Try.pinned : Pinned := { name := "ytfohnbfhajkelaa", sum := "0ad78cea3891868fc68e5abbbc8586799a90eb065daef22e2907c6b2a8f40f9c", checked := Try.checked }
namespace Rows
def none {H : Type} : Left H := { results := [], args := [] }

/-- 'ticketlinelaw16.PageChanges': WHATEVER THE INPUT: true; the input reads as it did. -/
def pageChangesSpec : ChangeSpec := { name := "pageChanges", fn := fun _ => fun
  | [d1, d2, d3] => { results := [.lit (.bool true)], args := [d1, d2, d3] }
  | _ => none }
def pageChangesRow : OpenClaim := { program := "ytfohnbfhajkelaa", sum := "0ad78cea3891868fc68e5abbbc8586799a90eb065daef22e2907c6b2a8f40f9c", func := "ticketline/ticketlinelaw16.PageChanges", spec := "pageChanges", inPlace := ["internal/bytealg.abigen_runtime_cmpstring"], apart := false }
def PageChangesSaid : Prop := pageChangesRow.holds Try.pinned (OpenSpec.ofChange pageChangesSpec)

/-- ITS FALSE NEIGHBOUR: 'it returns false'. Refute it at one input. -/
def pageChangesWrong : ChangeSpec := { name := "pageChanges", fn := fun _ => fun
  | [d1, d2, d3] => { results := [.lit (.bool false)], args := [d1, d2, d3] }
  | _ => none }
def PageChangesWrongFalsely : Prop := pageChangesRow.holds Try.pinned (OpenSpec.ofChange pageChangesWrong)

/-- 'ticketlinelaw16.PagePlays': WHATEVER THE INPUT: true; the input reads as it did. -/
def pagePlaysSpec : ChangeSpec := { name := "pagePlays", fn := fun _ => fun
  | [d1, d2] => { results := [.lit (.bool true)], args := [d1, d2] }
  | _ => none }
def pagePlaysRow : OpenClaim := { program := "ytfohnbfhajkelaa", sum := "0ad78cea3891868fc68e5abbbc8586799a90eb065daef22e2907c6b2a8f40f9c", func := "ticketline/ticketlinelaw16.PagePlays", spec := "pagePlays", inPlace := ["internal/bytealg.abigen_runtime_cmpstring"], apart := false }
def PagePlaysSaid : Prop := pagePlaysRow.holds Try.pinned (OpenSpec.ofChange pagePlaysSpec)

/-- ITS FALSE NEIGHBOUR: 'it returns false'. Refute it at one input. -/
def pagePlaysWrong : ChangeSpec := { name := "pagePlays", fn := fun _ => fun
  | [d1, d2] => { results := [.lit (.bool false)], args := [d1, d2] }
  | _ => none }
def PagePlaysWrongFalsely : Prop := pagePlaysRow.holds Try.pinned (OpenSpec.ofChange pagePlaysWrong)

/-- 'ticketlinelaw16.PageOf': WHATEVER THE INPUT: true; the input reads as it did. -/
def pageOfSpec : ChangeSpec := { name := "pageOf", fn := fun _ => fun
  | [d1, d2, d3, d4, d5] => { results := [.lit (.bool true)], args := [d1, d2, d3, d4, d5] }
  | _ => none }
def pageOfRow : OpenClaim := { program := "ytfohnbfhajkelaa", sum := "0ad78cea3891868fc68e5abbbc8586799a90eb065daef22e2907c6b2a8f40f9c", func := "ticketline/ticketlinelaw16.PageOf", spec := "pageOf", inPlace := ["internal/bytealg.abigen_runtime_cmpstring"], apart := false }
def PageOfSaid : Prop := pageOfRow.holds Try.pinned (OpenSpec.ofChange pageOfSpec)

/-- ITS FALSE NEIGHBOUR: 'it returns false'. Refute it at one input. -/
def pageOfWrong : ChangeSpec := { name := "pageOf", fn := fun _ => fun
  | [d1, d2, d3, d4, d5] => { results := [.lit (.bool false)], args := [d1, d2, d3, d4, d5] }
  | _ => none }
def PageOfWrongFalsely : Prop := pageOfRow.holds Try.pinned (OpenSpec.ofChange pageOfWrong)

/-- 'ticketlinelaw16.PageNumbers': WHATEVER THE INPUT: true; the input reads as it did. -/
def pageNumbersSpec : ChangeSpec := { name := "pageNumbers", fn := fun _ => fun
  | [d] => { results := [.lit (.bool true)], args := [d] }
  | _ => none }
def pageNumbersRow : OpenClaim := { program := "ytfohnbfhajkelaa", sum := "0ad78cea3891868fc68e5abbbc8586799a90eb065daef22e2907c6b2a8f40f9c", func := "ticketline/ticketlinelaw16.PageNumbers", spec := "pageNumbers", inPlace := ["internal/bytealg.abigen_runtime_cmpstring"], apart := false }
def PageNumbersSaid : Prop := pageNumbersRow.holds Try.pinned (OpenSpec.ofChange pageNumbersSpec)

/-- ITS FALSE NEIGHBOUR: 'it returns false'. Refute it at one input. -/
def pageNumbersWrong : ChangeSpec := { name := "pageNumbers", fn := fun _ => fun
  | [d] => { results := [.lit (.bool false)], args := [d] }
  | _ => none }
def PageNumbersWrongFalsely : Prop := pageNumbersRow.holds Try.pinned (OpenSpec.ofChange pageNumbersWrong)

/-- 'ticketlinelaw16.PageFills': WHATEVER THE INPUT: true; the input reads as it did. -/
def pageFillsSpec : ChangeSpec := { name := "pageFills", fn := fun _ => fun
  | [d1, d2, d3] => { results := [.lit (.bool true)], args := [d1, d2, d3] }
  | _ => none }
def pageFillsRow : OpenClaim := { program := "ytfohnbfhajkelaa", sum := "0ad78cea3891868fc68e5abbbc8586799a90eb065daef22e2907c6b2a8f40f9c", func := "ticketline/ticketlinelaw16.PageFills", spec := "pageFills", inPlace := ["internal/bytealg.abigen_runtime_cmpstring"], apart := false }
def PageFillsSaid : Prop := pageFillsRow.holds Try.pinned (OpenSpec.ofChange pageFillsSpec)

/-- ITS FALSE NEIGHBOUR: 'it returns false'. Refute it at one input. -/
def pageFillsWrong : ChangeSpec := { name := "pageFills", fn := fun _ => fun
  | [d1, d2, d3] => { results := [.lit (.bool false)], args := [d1, d2, d3] }
  | _ => none }
def PageFillsWrongFalsely : Prop := pageFillsRow.holds Try.pinned (OpenSpec.ofChange pageFillsWrong)

/-- 'ticketlinelaw16.PageHolds': WHATEVER THE INPUT: true; the input reads as it did. -/
def pageHoldsSpec : ChangeSpec := { name := "pageHolds", fn := fun _ => fun
  | [d1, d2] => { results := [.lit (.bool true)], args := [d1, d2] }
  | _ => none }
def pageHoldsRow : OpenClaim := { program := "ytfohnbfhajkelaa", sum := "0ad78cea3891868fc68e5abbbc8586799a90eb065daef22e2907c6b2a8f40f9c", func := "ticketline/ticketlinelaw16.PageHolds", spec := "pageHolds", inPlace := ["internal/bytealg.abigen_runtime_cmpstring"], apart := false }
def PageHoldsSaid : Prop := pageHoldsRow.holds Try.pinned (OpenSpec.ofChange pageHoldsSpec)

/-- ITS FALSE NEIGHBOUR: 'it returns false'. Refute it at one input. -/
def pageHoldsWrong : ChangeSpec := { name := "pageHolds", fn := fun _ => fun
  | [d1, d2] => { results := [.lit (.bool false)], args := [d1, d2] }
  | _ => none }
def PageHoldsWrongFalsely : Prop := pageHoldsRow.holds Try.pinned (OpenSpec.ofChange pageHoldsWrong)

/- THE SECOND FORM. 'bulk': how many values and letters a reading holds, each counted each time it is reached (what is shared counts as often as it is met; a slice's spare places count too). A statement '..UptoSaid' is the law's where the arguments, and the package variables that the reading takes, are together of bulk at most 1048576: NARROWER than '..Said'. Prove '..Said' where nothing that the law and all that it calls make is longer than what came in: it says more and counts as full. Else prove '..UptoSaid'. A law counts once. -/
mutual
def uptoBulk {H : Type} : DataW H → Nat
  | .lit (.string bytes) => bytes.length + 1
  | .lit _ => 1
  | .nil => 1
  | .ptr d => uptoBulk d + 1
  | .slice elems spare => uptoBulkAll elems + uptoBulkAll spare + 1
  | .agg parts => uptoBulkAll parts + 1
  | .iface _ d => uptoBulk d + 1
  | .map entries => uptoBulkEntries entries + 1
  | .held _ => 1
def uptoBulkAll {H : Type} : List (DataW H) → Nat
  | [] => 0
  | d :: r => uptoBulk d + uptoBulkAll r
def uptoBulkEntries {H : Type} : List (Lit × DataW H) → Nat
  | [] => 0
  | x :: r => uptoBulkEntry x + uptoBulkEntries r
def uptoBulkEntry {H : Type} : Lit × DataW H → Nat
  | (.string bytes, d) => bytes.length + uptoBulk d + 1
  | (_, d) => uptoBulk d + 1
 end
def uptoSmall : (H : Type) → List (DataW H) → Bool := fun _ ds => decide (uptoBulkAll ds ≤ 1048576)
def OpenSpec.upto (s : _root_.Go.ChangeSpec) : _root_.Go.OpenSpec := { _root_.Go.OpenSpec.ofChange s with cond := some uptoSmall }

/-- 'ticketlinelaw16.PageChanges', WHERE WHAT IT READS IS OF BULK AT MOST 1048576: true; the input reads as it did. -/
def pageChangesUptoRow : OpenClaim := { program := "ytfohnbfhajkelaa", sum := "0ad78cea3891868fc68e5abbbc8586799a90eb065daef22e2907c6b2a8f40f9c", func := "ticketline/ticketlinelaw16.PageChanges", spec := "pageChanges", inPlace := ["internal/bytealg.abigen_runtime_cmpstring"], apart := false, narrowed := true }
def PageChangesUptoSaid : Prop := pageChangesUptoRow.holds Try.pinned (OpenSpec.upto pageChangesSpec)

/-- 'ticketlinelaw16.PagePlays', WHERE WHAT IT READS IS OF BULK AT MOST 1048576: true; the input reads as it did. -/
def pagePlaysUptoRow : OpenClaim := { program := "ytfohnbfhajkelaa", sum := "0ad78cea3891868fc68e5abbbc8586799a90eb065daef22e2907c6b2a8f40f9c", func := "ticketline/ticketlinelaw16.PagePlays", spec := "pagePlays", inPlace := ["internal/bytealg.abigen_runtime_cmpstring"], apart := false, narrowed := true }
def PagePlaysUptoSaid : Prop := pagePlaysUptoRow.holds Try.pinned (OpenSpec.upto pagePlaysSpec)

/-- 'ticketlinelaw16.PageOf', WHERE WHAT IT READS IS OF BULK AT MOST 1048576: true; the input reads as it did. -/
def pageOfUptoRow : OpenClaim := { program := "ytfohnbfhajkelaa", sum := "0ad78cea3891868fc68e5abbbc8586799a90eb065daef22e2907c6b2a8f40f9c", func := "ticketline/ticketlinelaw16.PageOf", spec := "pageOf", inPlace := ["internal/bytealg.abigen_runtime_cmpstring"], apart := false, narrowed := true }
def PageOfUptoSaid : Prop := pageOfUptoRow.holds Try.pinned (OpenSpec.upto pageOfSpec)

/-- 'ticketlinelaw16.PageNumbers', WHERE WHAT IT READS IS OF BULK AT MOST 1048576: true; the input reads as it did. -/
def pageNumbersUptoRow : OpenClaim := { program := "ytfohnbfhajkelaa", sum := "0ad78cea3891868fc68e5abbbc8586799a90eb065daef22e2907c6b2a8f40f9c", func := "ticketline/ticketlinelaw16.PageNumbers", spec := "pageNumbers", inPlace := ["internal/bytealg.abigen_runtime_cmpstring"], apart := false, narrowed := true }
def PageNumbersUptoSaid : Prop := pageNumbersUptoRow.holds Try.pinned (OpenSpec.upto pageNumbersSpec)

/-- 'ticketlinelaw16.PageFills', WHERE WHAT IT READS IS OF BULK AT MOST 1048576: true; the input reads as it did. -/
def pageFillsUptoRow : OpenClaim := { program := "ytfohnbfhajkelaa", sum := "0ad78cea3891868fc68e5abbbc8586799a90eb065daef22e2907c6b2a8f40f9c", func := "ticketline/ticketlinelaw16.PageFills", spec := "pageFills", inPlace := ["internal/bytealg.abigen_runtime_cmpstring"], apart := false, narrowed := true }
def PageFillsUptoSaid : Prop := pageFillsUptoRow.holds Try.pinned (OpenSpec.upto pageFillsSpec)

/-- 'ticketlinelaw16.PageHolds', WHERE WHAT IT READS IS OF BULK AT MOST 1048576: true; the input reads as it did. -/
def pageHoldsUptoRow : OpenClaim := { program := "ytfohnbfhajkelaa", sum := "0ad78cea3891868fc68e5abbbc8586799a90eb065daef22e2907c6b2a8f40f9c", func := "ticketline/ticketlinelaw16.PageHolds", spec := "pageHolds", inPlace := ["internal/bytealg.abigen_runtime_cmpstring"], apart := false, narrowed := true }
def PageHoldsUptoSaid : Prop := pageHoldsUptoRow.holds Try.pinned (OpenSpec.upto pageHoldsSpec)

end Rows
end Go.Proofs.Ytfohnbfhajkelaa
