/-
  No cell of these rows narrows 'for every input' (looked for: loops, veiled, ifaces, maps, wideKeys, modest, calm, conditions, laid).
  DERIVED. THE GIVEN ROWS OF THIS SEAT. 5 by the template 'for every input the law returns true; each argument reads behind the call as it read before'; 0 by the template 'total and deterministic' (their statements: YtiknbfledplnlaaTotals.lean).
  GIVEN WITH THE SEED: the statements are not yours to turn. If you find one false, say at which input.
  Laid BY PROGRAM, IN A SANDBOX (cutbox-rows.mjs): the forced cells as the released guide's own fill.sh prints them over the translation a85d99d99f43bcc8… (all of the seat's roots in one cut). By AI agents, Wed Nov 11 2026. No macro, syntax, notation, axiom, sorry.
-/
import Derived.Test.YtiknbfledplnlaaChecked
import GoSem.Claim
import GoSem.ClaimJoined
import GoSem.ClaimMapViews
import Derived.JoinedTies
import Derived.KernelRfl
namespace Go.Proofs.Ytiknbfledplnlaa
/- THE CELL 'sum', in the pinned program and in every row, IS THE sha256 OF THE DUMP (.gsa) THAT YtiknbfledplnlaaProg.lean LOADS. Nothing in Lean hashes anything: it is a label: what it is worth is what the hold of that sum in a sandbox is worth. -/
noncomputable def Try.pinned : Pinned := { name := "ytiknbfledplnlaa", sum := "a85d99d99f43bcc8aaddf2ca73bac3be4345f8d65bbbd44f2d1d64ffb0134b95", checked := Try.checked }
namespace Rows
def none {H : Type} : Left H := { results := [], args := [] }

/-- 'ticketlinelaw33.DeadlineSets': WHATEVER THE INPUT: true; the input reads as it did. -/
def deadlineSetsSpec : ChangeSpec := { name := "deadlineSets", fn := fun _ => fun
  | [d1, d2] => { results := [.lit (.bool true)], args := [d1, d2] }
  | _ => none }
def deadlineSetsRow : OpenClaim := { program := "ytiknbfledplnlaa", sum := "a85d99d99f43bcc8aaddf2ca73bac3be4345f8d65bbbd44f2d1d64ffb0134b95", func := "ticketline/ticketlinelaw33.DeadlineSets", spec := "deadlineSets", inPlace := ["internal/bytealg.abigen_runtime_cmpstring"], unfollowed := true, recurses := true, apart := false }
def DeadlineSetsSaid : Prop := deadlineSetsRow.holds Try.pinned (OpenSpec.ofChange deadlineSetsSpec)

/-- ITS FALSE NEIGHBOUR: 'it returns false'. Refute it at one input. -/
def deadlineSetsWrong : ChangeSpec := { name := "deadlineSets", fn := fun _ => fun
  | [d1, d2] => { results := [.lit (.bool false)], args := [d1, d2] }
  | _ => none }
def DeadlineSetsWrongFalsely : Prop := deadlineSetsRow.holds Try.pinned (OpenSpec.ofChange deadlineSetsWrong)

/-- 'ticketlinelaw33.DeadlineChecks': WHATEVER THE INPUT: true; the input reads as it did. -/
def deadlineChecksSpec : ChangeSpec := { name := "deadlineChecks", fn := fun _ => fun
  | [d1, d2, d3] => { results := [.lit (.bool true)], args := [d1, d2, d3] }
  | _ => none }
def deadlineChecksRow : OpenClaim := { program := "ytiknbfledplnlaa", sum := "a85d99d99f43bcc8aaddf2ca73bac3be4345f8d65bbbd44f2d1d64ffb0134b95", func := "ticketline/ticketlinelaw33.DeadlineChecks", spec := "deadlineChecks", inPlace := ["internal/bytealg.abigen_runtime_cmpstring"], unfollowed := true, recurses := true, apart := false }
def DeadlineChecksSaid : Prop := deadlineChecksRow.holds Try.pinned (OpenSpec.ofChange deadlineChecksSpec)

/-- ITS FALSE NEIGHBOUR: 'it returns false'. Refute it at one input. -/
def deadlineChecksWrong : ChangeSpec := { name := "deadlineChecks", fn := fun _ => fun
  | [d1, d2, d3] => { results := [.lit (.bool false)], args := [d1, d2, d3] }
  | _ => none }
def DeadlineChecksWrongFalsely : Prop := deadlineChecksRow.holds Try.pinned (OpenSpec.ofChange deadlineChecksWrong)

/-- 'ticketlinelaw33.DeadlineShort': WHATEVER THE INPUT: true; the input reads as it did. -/
def deadlineShortSpec : ChangeSpec := { name := "deadlineShort", fn := fun _ => fun
  | [d] => { results := [.lit (.bool true)], args := [d] }
  | _ => none }
def deadlineShortRow : OpenClaim := { program := "ytiknbfledplnlaa", sum := "a85d99d99f43bcc8aaddf2ca73bac3be4345f8d65bbbd44f2d1d64ffb0134b95", func := "ticketline/ticketlinelaw33.DeadlineShort", spec := "deadlineShort", inPlace := ["internal/bytealg.abigen_runtime_cmpstring"], unfollowed := true, recurses := true, apart := false }
def DeadlineShortSaid : Prop := deadlineShortRow.holds Try.pinned (OpenSpec.ofChange deadlineShortSpec)

/-- ITS FALSE NEIGHBOUR: 'it returns false'. Refute it at one input. -/
def deadlineShortWrong : ChangeSpec := { name := "deadlineShort", fn := fun _ => fun
  | [d] => { results := [.lit (.bool false)], args := [d] }
  | _ => none }
def DeadlineShortWrongFalsely : Prop := deadlineShortRow.holds Try.pinned (OpenSpec.ofChange deadlineShortWrong)

/-- 'ticketlinelaw33.DeadlineHolds': WHATEVER THE INPUT: true; the input reads as it did. -/
def deadlineHoldsSpec : ChangeSpec := { name := "deadlineHolds", fn := fun _ => fun
  | [d1, d2] => { results := [.lit (.bool true)], args := [d1, d2] }
  | _ => none }
def deadlineHoldsRow : OpenClaim := { program := "ytiknbfledplnlaa", sum := "a85d99d99f43bcc8aaddf2ca73bac3be4345f8d65bbbd44f2d1d64ffb0134b95", func := "ticketline/ticketlinelaw33.DeadlineHolds", spec := "deadlineHolds", inPlace := ["internal/bytealg.abigen_runtime_cmpstring"], unfollowed := true, recurses := true, apart := false }
def DeadlineHoldsSaid : Prop := deadlineHoldsRow.holds Try.pinned (OpenSpec.ofChange deadlineHoldsSpec)

/-- ITS FALSE NEIGHBOUR: 'it returns false'. Refute it at one input. -/
def deadlineHoldsWrong : ChangeSpec := { name := "deadlineHolds", fn := fun _ => fun
  | [d1, d2] => { results := [.lit (.bool false)], args := [d1, d2] }
  | _ => none }
def DeadlineHoldsWrongFalsely : Prop := deadlineHoldsRow.holds Try.pinned (OpenSpec.ofChange deadlineHoldsWrong)

/-- 'ticketlinelaw33.DeadlineNone': WHATEVER THE INPUT: true; the input reads as it did. -/
def deadlineNoneSpec : ChangeSpec := { name := "deadlineNone", fn := fun _ => fun
  | [] => { results := [.lit (.bool true)], args := [] }
  | _ => none }
def deadlineNoneRow : OpenClaim := { program := "ytiknbfledplnlaa", sum := "a85d99d99f43bcc8aaddf2ca73bac3be4345f8d65bbbd44f2d1d64ffb0134b95", func := "ticketline/ticketlinelaw33.DeadlineNone", spec := "deadlineNone", inPlace := ["internal/bytealg.abigen_runtime_cmpstring"], unfollowed := true, recurses := true, apart := false }
def DeadlineNoneSaid : Prop := deadlineNoneRow.holds Try.pinned (OpenSpec.ofChange deadlineNoneSpec)

/-- ITS FALSE NEIGHBOUR: 'it returns false'. Refute it at one input. -/
def deadlineNoneWrong : ChangeSpec := { name := "deadlineNone", fn := fun _ => fun
  | [] => { results := [.lit (.bool false)], args := [] }
  | _ => none }
def DeadlineNoneWrongFalsely : Prop := deadlineNoneRow.holds Try.pinned (OpenSpec.ofChange deadlineNoneWrong)

/- THE SECOND FORM. 'bulk': how many values and letters a reading holds, each counted each time it is reached (what is shared counts as often as it is met; a slice's spare places count too). A statement '..UptoSaid' is the law's where the arguments, and the package variables that the reading takes, are together of bulk at most 1048576: NARROWER than '..Said'. Prove '..Said' where nothing that the law and all that it calls make is longer than what came in: it says more and counts as full. Else prove '..UptoSaid'. A law counts once. -/
mutual
def uptoBulk {H : Type} : DataW H → Nat
  | .lit (.string bytes) => bytes.length + 1
  | .lit _ => 1
  | .nil => 1
  | .ptr d => uptoBulk d + 1
  | .slice elems spare => uptoBulkAll elems + uptoBulkAll spare + 1
  | .agg parts => uptoBulkAll parts + 1
  | .iface _ d => uptoBulk d + 1
  | .map entries => uptoBulkEntries entries + 1
  | .held _ => 1
def uptoBulkAll {H : Type} : List (DataW H) → Nat
  | [] => 0
  | d :: r => uptoBulk d + uptoBulkAll r
def uptoBulkEntries {H : Type} : List (Lit × DataW H) → Nat
  | [] => 0
  | x :: r => uptoBulkEntry x + uptoBulkEntries r
def uptoBulkEntry {H : Type} : Lit × DataW H → Nat
  | (.string bytes, d) => bytes.length + uptoBulk d + 1
  | (_, d) => uptoBulk d + 1
 end
def uptoSmall : (H : Type) → List (DataW H) → Bool := fun _ ds => decide (uptoBulkAll ds ≤ 1048576)
def OpenSpec.upto (s : _root_.Go.ChangeSpec) : _root_.Go.OpenSpec := { _root_.Go.OpenSpec.ofChange s with cond := some uptoSmall }

/-- 'ticketlinelaw33.DeadlineSets', WHERE WHAT IT READS IS OF BULK AT MOST 1048576: true; the input reads as it did. -/
def deadlineSetsUptoRow : OpenClaim := { program := "ytiknbfledplnlaa", sum := "a85d99d99f43bcc8aaddf2ca73bac3be4345f8d65bbbd44f2d1d64ffb0134b95", func := "ticketline/ticketlinelaw33.DeadlineSets", spec := "deadlineSets", inPlace := ["internal/bytealg.abigen_runtime_cmpstring"], unfollowed := true, recurses := true, apart := false, narrowed := true }
def DeadlineSetsUptoSaid : Prop := deadlineSetsUptoRow.holds Try.pinned (OpenSpec.upto deadlineSetsSpec)

/-- 'ticketlinelaw33.DeadlineChecks', WHERE WHAT IT READS IS OF BULK AT MOST 1048576: true; the input reads as it did. -/
def deadlineChecksUptoRow : OpenClaim := { program := "ytiknbfledplnlaa", sum := "a85d99d99f43bcc8aaddf2ca73bac3be4345f8d65bbbd44f2d1d64ffb0134b95", func := "ticketline/ticketlinelaw33.DeadlineChecks", spec := "deadlineChecks", inPlace := ["internal/bytealg.abigen_runtime_cmpstring"], unfollowed := true, recurses := true, apart := false, narrowed := true }
def DeadlineChecksUptoSaid : Prop := deadlineChecksUptoRow.holds Try.pinned (OpenSpec.upto deadlineChecksSpec)

/-- 'ticketlinelaw33.DeadlineShort', WHERE WHAT IT READS IS OF BULK AT MOST 1048576: true; the input reads as it did. -/
def deadlineShortUptoRow : OpenClaim := { program := "ytiknbfledplnlaa", sum := "a85d99d99f43bcc8aaddf2ca73bac3be4345f8d65bbbd44f2d1d64ffb0134b95", func := "ticketline/ticketlinelaw33.DeadlineShort", spec := "deadlineShort", inPlace := ["internal/bytealg.abigen_runtime_cmpstring"], unfollowed := true, recurses := true, apart := false, narrowed := true }
def DeadlineShortUptoSaid : Prop := deadlineShortUptoRow.holds Try.pinned (OpenSpec.upto deadlineShortSpec)

/-- 'ticketlinelaw33.DeadlineHolds', WHERE WHAT IT READS IS OF BULK AT MOST 1048576: true; the input reads as it did. -/
def deadlineHoldsUptoRow : OpenClaim := { program := "ytiknbfledplnlaa", sum := "a85d99d99f43bcc8aaddf2ca73bac3be4345f8d65bbbd44f2d1d64ffb0134b95", func := "ticketline/ticketlinelaw33.DeadlineHolds", spec := "deadlineHolds", inPlace := ["internal/bytealg.abigen_runtime_cmpstring"], unfollowed := true, recurses := true, apart := false, narrowed := true }
def DeadlineHoldsUptoSaid : Prop := deadlineHoldsUptoRow.holds Try.pinned (OpenSpec.upto deadlineHoldsSpec)

/-- 'ticketlinelaw33.DeadlineNone', WHERE WHAT IT READS IS OF BULK AT MOST 1048576: true; the input reads as it did. -/
def deadlineNoneUptoRow : OpenClaim := { program := "ytiknbfledplnlaa", sum := "a85d99d99f43bcc8aaddf2ca73bac3be4345f8d65bbbd44f2d1d64ffb0134b95", func := "ticketline/ticketlinelaw33.DeadlineNone", spec := "deadlineNone", inPlace := ["internal/bytealg.abigen_runtime_cmpstring"], unfollowed := true, recurses := true, apart := false, narrowed := true }
def DeadlineNoneUptoSaid : Prop := deadlineNoneUptoRow.holds Try.pinned (OpenSpec.upto deadlineNoneSpec)

end Rows
end Go.Proofs.Ytiknbfledplnlaa
