/-
  No cell of these rows narrows 'for every input' (looked for: loops, veiled, ifaces, maps, wideKeys, modest, calm, conditions, laid).
  DERIVED. THE GIVEN ROWS OF THIS SEAT. 5 by the template 'for every input the law returns true; each argument reads behind the call as it read before'; 0 by the template 'total and deterministic' (their statements: YtkmanlclmmdhgaaTotals.lean).
  GIVEN WITH THE SEED: the statements are not yours to turn. If you find one false, say at which input.
  Laid BY PROGRAM, IN A SANDBOX (cutbox-rows.mjs): the forced cells as the released guide's own fill.sh prints them over the translation 244803a219bd60b6… (all of the seat's roots in one cut). By AI agents, Wed Nov 11 2026. No macro, syntax, notation, axiom, sorry.
-/
import Derived.Test.YtkmanlclmmdhgaaChecked
import GoSem.Claim
import GoSem.ClaimJoined
import GoSem.ClaimMapViews
import Derived.JoinedTies
import Derived.KernelRfl
namespace Go.Proofs.Ytkmanlclmmdhgaa
/- THE CELL 'sum', in the pinned program and in every row, IS THE sha256 OF THE DUMP (.gsa) THAT YtkmanlclmmdhgaaProg.lean LOADS. Nothing in Lean hashes anything: it is a label: what it is worth is what the hold of that sum in a sandbox is worth. -/
noncomputable def Try.pinned : Pinned := { name := "ytkmanlclmmdhgaa", sum := "244803a219bd60b676e3fde1e2e8e414829f75320e001580be61c32ed7f395c1", checked := Try.checked }
namespace Rows
def none {H : Type} : Left H := { results := [], args := [] }

/-- 'ticketlinelaw15.SearchFinds': WHATEVER THE INPUT: true; the input reads as it did. -/
def searchFindsSpec : ChangeSpec := { name := "searchFinds", fn := fun _ => fun
  | [d1, d2] => { results := [.lit (.bool true)], args := [d1, d2] }
  | _ => none }
def searchFindsRow : OpenClaim := { program := "ytkmanlclmmdhgaa", sum := "244803a219bd60b676e3fde1e2e8e414829f75320e001580be61c32ed7f395c1", func := "ticketline/ticketlinelaw15.SearchFinds", spec := "searchFinds", inPlace := ["internal/bytealg.abigen_runtime_cmpstring"], apart := false }
def SearchFindsSaid : Prop := searchFindsRow.holds Try.pinned (OpenSpec.ofChange searchFindsSpec)

/-- ITS FALSE NEIGHBOUR: 'it returns false'. Refute it at one input. -/
def searchFindsWrong : ChangeSpec := { name := "searchFinds", fn := fun _ => fun
  | [d1, d2] => { results := [.lit (.bool false)], args := [d1, d2] }
  | _ => none }
def SearchFindsWrongFalsely : Prop := searchFindsRow.holds Try.pinned (OpenSpec.ofChange searchFindsWrong)

/-- 'ticketlinelaw15.SearchOwn': WHATEVER THE INPUT: true; the input reads as it did. -/
def searchOwnSpec : ChangeSpec := { name := "searchOwn", fn := fun _ => fun
  | [d] => { results := [.lit (.bool true)], args := [d] }
  | _ => none }
def searchOwnRow : OpenClaim := { program := "ytkmanlclmmdhgaa", sum := "244803a219bd60b676e3fde1e2e8e414829f75320e001580be61c32ed7f395c1", func := "ticketline/ticketlinelaw15.SearchOwn", spec := "searchOwn", inPlace := ["internal/bytealg.abigen_runtime_cmpstring"], apart := false }
def SearchOwnSaid : Prop := searchOwnRow.holds Try.pinned (OpenSpec.ofChange searchOwnSpec)

/-- ITS FALSE NEIGHBOUR: 'it returns false'. Refute it at one input. -/
def searchOwnWrong : ChangeSpec := { name := "searchOwn", fn := fun _ => fun
  | [d] => { results := [.lit (.bool false)], args := [d] }
  | _ => none }
def SearchOwnWrongFalsely : Prop := searchOwnRow.holds Try.pinned (OpenSpec.ofChange searchOwnWrong)

/-- 'ticketlinelaw15.SearchRanges': WHATEVER THE INPUT: true; the input reads as it did. -/
def searchRangesSpec : ChangeSpec := { name := "searchRanges", fn := fun _ => fun
  | [d1, d2, d3] => { results := [.lit (.bool true)], args := [d1, d2, d3] }
  | _ => none }
def searchRangesRow : OpenClaim := { program := "ytkmanlclmmdhgaa", sum := "244803a219bd60b676e3fde1e2e8e414829f75320e001580be61c32ed7f395c1", func := "ticketline/ticketlinelaw15.SearchRanges", spec := "searchRanges", inPlace := ["internal/bytealg.abigen_runtime_cmpstring"], apart := false }
def SearchRangesSaid : Prop := searchRangesRow.holds Try.pinned (OpenSpec.ofChange searchRangesSpec)

/-- ITS FALSE NEIGHBOUR: 'it returns false'. Refute it at one input. -/
def searchRangesWrong : ChangeSpec := { name := "searchRanges", fn := fun _ => fun
  | [d1, d2, d3] => { results := [.lit (.bool false)], args := [d1, d2, d3] }
  | _ => none }
def SearchRangesWrongFalsely : Prop := searchRangesRow.holds Try.pinned (OpenSpec.ofChange searchRangesWrong)

/-- 'ticketlinelaw15.SearchWords': WHATEVER THE INPUT: true; the input reads as it did. -/
def searchWordsSpec : ChangeSpec := { name := "searchWords", fn := fun _ => fun
  | [d1, d2] => { results := [.lit (.bool true)], args := [d1, d2] }
  | _ => none }
def searchWordsRow : OpenClaim := { program := "ytkmanlclmmdhgaa", sum := "244803a219bd60b676e3fde1e2e8e414829f75320e001580be61c32ed7f395c1", func := "ticketline/ticketlinelaw15.SearchWords", spec := "searchWords", inPlace := ["internal/bytealg.abigen_runtime_cmpstring"], apart := false }
def SearchWordsSaid : Prop := searchWordsRow.holds Try.pinned (OpenSpec.ofChange searchWordsSpec)

/-- ITS FALSE NEIGHBOUR: 'it returns false'. Refute it at one input. -/
def searchWordsWrong : ChangeSpec := { name := "searchWords", fn := fun _ => fun
  | [d1, d2] => { results := [.lit (.bool false)], args := [d1, d2] }
  | _ => none }
def SearchWordsWrongFalsely : Prop := searchWordsRow.holds Try.pinned (OpenSpec.ofChange searchWordsWrong)

/-- 'ticketlinelaw15.SearchHolds': WHATEVER THE INPUT: true; the input reads as it did. -/
def searchHoldsSpec : ChangeSpec := { name := "searchHolds", fn := fun _ => fun
  | [d1, d2] => { results := [.lit (.bool true)], args := [d1, d2] }
  | _ => none }
def searchHoldsRow : OpenClaim := { program := "ytkmanlclmmdhgaa", sum := "244803a219bd60b676e3fde1e2e8e414829f75320e001580be61c32ed7f395c1", func := "ticketline/ticketlinelaw15.SearchHolds", spec := "searchHolds", inPlace := ["internal/bytealg.abigen_runtime_cmpstring"], apart := false }
def SearchHoldsSaid : Prop := searchHoldsRow.holds Try.pinned (OpenSpec.ofChange searchHoldsSpec)

/-- ITS FALSE NEIGHBOUR: 'it returns false'. Refute it at one input. -/
def searchHoldsWrong : ChangeSpec := { name := "searchHolds", fn := fun _ => fun
  | [d1, d2] => { results := [.lit (.bool false)], args := [d1, d2] }
  | _ => none }
def SearchHoldsWrongFalsely : Prop := searchHoldsRow.holds Try.pinned (OpenSpec.ofChange searchHoldsWrong)

/- THE SECOND FORM. 'bulk': how many values and letters a reading holds, each counted each time it is reached (what is shared counts as often as it is met; a slice's spare places count too). A statement '..UptoSaid' is the law's where the arguments, and the package variables that the reading takes, are together of bulk at most 1048576: NARROWER than '..Said'. Prove '..Said' where nothing that the law and all that it calls make is longer than what came in: it says more and counts as full. Else prove '..UptoSaid'. A law counts once. -/
mutual
def uptoBulk {H : Type} : DataW H → Nat
  | .lit (.string bytes) => bytes.length + 1
  | .lit _ => 1
  | .nil => 1
  | .ptr d => uptoBulk d + 1
  | .slice elems spare => uptoBulkAll elems + uptoBulkAll spare + 1
  | .agg parts => uptoBulkAll parts + 1
  | .iface _ d => uptoBulk d + 1
  | .map entries => uptoBulkEntries entries + 1
  | .held _ => 1
def uptoBulkAll {H : Type} : List (DataW H) → Nat
  | [] => 0
  | d :: r => uptoBulk d + uptoBulkAll r
def uptoBulkEntries {H : Type} : List (Lit × DataW H) → Nat
  | [] => 0
  | x :: r => uptoBulkEntry x + uptoBulkEntries r
def uptoBulkEntry {H : Type} : Lit × DataW H → Nat
  | (.string bytes, d) => bytes.length + uptoBulk d + 1
  | (_, d) => uptoBulk d + 1
 end
def uptoSmall : (H : Type) → List (DataW H) → Bool := fun _ ds => decide (uptoBulkAll ds ≤ 1048576)
def OpenSpec.upto (s : _root_.Go.ChangeSpec) : _root_.Go.OpenSpec := { _root_.Go.OpenSpec.ofChange s with cond := some uptoSmall }

/-- 'ticketlinelaw15.SearchFinds', WHERE WHAT IT READS IS OF BULK AT MOST 1048576: true; the input reads as it did. -/
def searchFindsUptoRow : OpenClaim := { program := "ytkmanlclmmdhgaa", sum := "244803a219bd60b676e3fde1e2e8e414829f75320e001580be61c32ed7f395c1", func := "ticketline/ticketlinelaw15.SearchFinds", spec := "searchFinds", inPlace := ["internal/bytealg.abigen_runtime_cmpstring"], apart := false, narrowed := true }
def SearchFindsUptoSaid : Prop := searchFindsUptoRow.holds Try.pinned (OpenSpec.upto searchFindsSpec)

/-- 'ticketlinelaw15.SearchOwn', WHERE WHAT IT READS IS OF BULK AT MOST 1048576: true; the input reads as it did. -/
def searchOwnUptoRow : OpenClaim := { program := "ytkmanlclmmdhgaa", sum := "244803a219bd60b676e3fde1e2e8e414829f75320e001580be61c32ed7f395c1", func := "ticketline/ticketlinelaw15.SearchOwn", spec := "searchOwn", inPlace := ["internal/bytealg.abigen_runtime_cmpstring"], apart := false, narrowed := true }
def SearchOwnUptoSaid : Prop := searchOwnUptoRow.holds Try.pinned (OpenSpec.upto searchOwnSpec)

/-- 'ticketlinelaw15.SearchRanges', WHERE WHAT IT READS IS OF BULK AT MOST 1048576: true; the input reads as it did. -/
def searchRangesUptoRow : OpenClaim := { program := "ytkmanlclmmdhgaa", sum := "244803a219bd60b676e3fde1e2e8e414829f75320e001580be61c32ed7f395c1", func := "ticketline/ticketlinelaw15.SearchRanges", spec := "searchRanges", inPlace := ["internal/bytealg.abigen_runtime_cmpstring"], apart := false, narrowed := true }
def SearchRangesUptoSaid : Prop := searchRangesUptoRow.holds Try.pinned (OpenSpec.upto searchRangesSpec)

/-- 'ticketlinelaw15.SearchWords', WHERE WHAT IT READS IS OF BULK AT MOST 1048576: true; the input reads as it did. -/
def searchWordsUptoRow : OpenClaim := { program := "ytkmanlclmmdhgaa", sum := "244803a219bd60b676e3fde1e2e8e414829f75320e001580be61c32ed7f395c1", func := "ticketline/ticketlinelaw15.SearchWords", spec := "searchWords", inPlace := ["internal/bytealg.abigen_runtime_cmpstring"], apart := false, narrowed := true }
def SearchWordsUptoSaid : Prop := searchWordsUptoRow.holds Try.pinned (OpenSpec.upto searchWordsSpec)

/-- 'ticketlinelaw15.SearchHolds', WHERE WHAT IT READS IS OF BULK AT MOST 1048576: true; the input reads as it did. -/
def searchHoldsUptoRow : OpenClaim := { program := "ytkmanlclmmdhgaa", sum := "244803a219bd60b676e3fde1e2e8e414829f75320e001580be61c32ed7f395c1", func := "ticketline/ticketlinelaw15.SearchHolds", spec := "searchHolds", inPlace := ["internal/bytealg.abigen_runtime_cmpstring"], apart := false, narrowed := true }
def SearchHoldsUptoSaid : Prop := searchHoldsUptoRow.holds Try.pinned (OpenSpec.upto searchHoldsSpec)

end Rows
end Go.Proofs.Ytkmanlclmmdhgaa
