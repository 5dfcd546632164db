/-
  No cell of these rows narrows 'for every input' (looked for: loops, veiled, ifaces, maps, wideKeys, modest, calm, conditions, laid).
  DERIVED. THE GIVEN ROWS OF THIS SEAT. 5 by the template 'for every input the law returns true; each argument reads behind the call as it read before'; 0 by the template 'total and deterministic' (their statements: YtefbnamginihkaaTotals.lean).
  GIVEN WITH THE SEED: the statements are not yours to turn. If you find one false, say at which input.
  Laid BY PROGRAM, IN A SANDBOX (cutbox-rows.mjs): the forced cells as the released guide's own fill.sh prints them over the translation a8ca7553d92d9e25… (all of the seat's roots in one cut). By AI agents, Wed Nov 11 2026. No macro, syntax, notation, axiom, sorry.
-/
import Derived.Test.YtefbnamginihkaaChecked
import GoSem.Claim
import GoSem.ClaimJoined
import GoSem.ClaimMapViews
import Derived.JoinedTies
import Derived.KernelRfl
namespace Go.Proofs.Ytefbnamginihkaa
/- THE CELL 'sum', in the pinned program and in every row, IS THE sha256 OF THE DUMP (.gsa) THAT YtefbnamginihkaaProg.lean LOADS. Nothing in Lean hashes anything: it is a label: what it is worth is what the hold of that sum in a sandbox is worth. -/
noncomputable def Try.pinned : Pinned := { name := "ytefbnamginihkaa", sum := "a8ca7553d92d9e251115f9ba46d26bd3d741e42c822705c9a8b28e7191b1c32a", checked := Try.checked }
namespace Rows
def none {H : Type} : Left H := { results := [], args := [] }

/-- 'ticketlinelaw04.ScriptParses': WHATEVER THE INPUT: true; the input reads as it did. -/
def scriptParsesSpec : ChangeSpec := { name := "scriptParses", fn := fun _ => fun
  | [d1, d2] => { results := [.lit (.bool true)], args := [d1, d2] }
  | _ => none }
def scriptParsesRow : OpenClaim := { program := "ytefbnamginihkaa", sum := "a8ca7553d92d9e251115f9ba46d26bd3d741e42c822705c9a8b28e7191b1c32a", func := "ticketline/ticketlinelaw04.ScriptParses", spec := "scriptParses", inPlace := ["internal/abi.NoEscape", "internal/bytealg.MakeNoZero"], apart := false }
def ScriptParsesSaid : Prop := scriptParsesRow.holds Try.pinned (OpenSpec.ofChange scriptParsesSpec)

/-- ITS FALSE NEIGHBOUR: 'it returns false'. Refute it at one input. -/
def scriptParsesWrong : ChangeSpec := { name := "scriptParses", fn := fun _ => fun
  | [d1, d2] => { results := [.lit (.bool false)], args := [d1, d2] }
  | _ => none }
def ScriptParsesWrongFalsely : Prop := scriptParsesRow.holds Try.pinned (OpenSpec.ofChange scriptParsesWrong)

/-- 'ticketlinelaw04.ScriptWrites': WHATEVER THE INPUT: true; the input reads as it did. -/
def scriptWritesSpec : ChangeSpec := { name := "scriptWrites", fn := fun _ => fun
  | [d] => { results := [.lit (.bool true)], args := [d] }
  | _ => none }
def scriptWritesRow : OpenClaim := { program := "ytefbnamginihkaa", sum := "a8ca7553d92d9e251115f9ba46d26bd3d741e42c822705c9a8b28e7191b1c32a", func := "ticketline/ticketlinelaw04.ScriptWrites", spec := "scriptWrites", inPlace := ["internal/abi.NoEscape", "internal/bytealg.MakeNoZero"], apart := false }
def ScriptWritesSaid : Prop := scriptWritesRow.holds Try.pinned (OpenSpec.ofChange scriptWritesSpec)

/-- ITS FALSE NEIGHBOUR: 'it returns false'. Refute it at one input. -/
def scriptWritesWrong : ChangeSpec := { name := "scriptWrites", fn := fun _ => fun
  | [d] => { results := [.lit (.bool false)], args := [d] }
  | _ => none }
def ScriptWritesWrongFalsely : Prop := scriptWritesRow.holds Try.pinned (OpenSpec.ofChange scriptWritesWrong)

/-- 'ticketlinelaw04.ScriptKeys': WHATEVER THE INPUT: true; the input reads as it did. -/
def scriptKeysSpec : ChangeSpec := { name := "scriptKeys", fn := fun _ => fun
  | [d] => { results := [.lit (.bool true)], args := [d] }
  | _ => none }
def scriptKeysRow : OpenClaim := { program := "ytefbnamginihkaa", sum := "a8ca7553d92d9e251115f9ba46d26bd3d741e42c822705c9a8b28e7191b1c32a", func := "ticketline/ticketlinelaw04.ScriptKeys", spec := "scriptKeys", inPlace := ["internal/abi.NoEscape", "internal/bytealg.MakeNoZero"], apart := false }
def ScriptKeysSaid : Prop := scriptKeysRow.holds Try.pinned (OpenSpec.ofChange scriptKeysSpec)

/-- ITS FALSE NEIGHBOUR: 'it returns false'. Refute it at one input. -/
def scriptKeysWrong : ChangeSpec := { name := "scriptKeys", fn := fun _ => fun
  | [d] => { results := [.lit (.bool false)], args := [d] }
  | _ => none }
def ScriptKeysWrongFalsely : Prop := scriptKeysRow.holds Try.pinned (OpenSpec.ofChange scriptKeysWrong)

/-- 'ticketlinelaw04.ScriptLongs': WHATEVER THE INPUT: true; the input reads as it did. -/
def scriptLongsSpec : ChangeSpec := { name := "scriptLongs", fn := fun _ => fun
  | [d1, d2, d3] => { results := [.lit (.bool true)], args := [d1, d2, d3] }
  | _ => none }
def scriptLongsRow : OpenClaim := { program := "ytefbnamginihkaa", sum := "a8ca7553d92d9e251115f9ba46d26bd3d741e42c822705c9a8b28e7191b1c32a", func := "ticketline/ticketlinelaw04.ScriptLongs", spec := "scriptLongs", inPlace := ["internal/abi.NoEscape", "internal/bytealg.MakeNoZero"], apart := false }
def ScriptLongsSaid : Prop := scriptLongsRow.holds Try.pinned (OpenSpec.ofChange scriptLongsSpec)

/-- ITS FALSE NEIGHBOUR: 'it returns false'. Refute it at one input. -/
def scriptLongsWrong : ChangeSpec := { name := "scriptLongs", fn := fun _ => fun
  | [d1, d2, d3] => { results := [.lit (.bool false)], args := [d1, d2, d3] }
  | _ => none }
def ScriptLongsWrongFalsely : Prop := scriptLongsRow.holds Try.pinned (OpenSpec.ofChange scriptLongsWrong)

/-- 'ticketlinelaw04.ScriptHolds': WHATEVER THE INPUT: true; the input reads as it did. -/
def scriptHoldsSpec : ChangeSpec := { name := "scriptHolds", fn := fun _ => fun
  | [d1, d2, d3, d4, d5] => { results := [.lit (.bool true)], args := [d1, d2, d3, d4, d5] }
  | _ => none }
def scriptHoldsRow : OpenClaim := { program := "ytefbnamginihkaa", sum := "a8ca7553d92d9e251115f9ba46d26bd3d741e42c822705c9a8b28e7191b1c32a", func := "ticketline/ticketlinelaw04.ScriptHolds", spec := "scriptHolds", inPlace := ["internal/abi.NoEscape", "internal/bytealg.MakeNoZero"], apart := false }
def ScriptHoldsSaid : Prop := scriptHoldsRow.holds Try.pinned (OpenSpec.ofChange scriptHoldsSpec)

/-- ITS FALSE NEIGHBOUR: 'it returns false'. Refute it at one input. -/
def scriptHoldsWrong : ChangeSpec := { name := "scriptHolds", fn := fun _ => fun
  | [d1, d2, d3, d4, d5] => { results := [.lit (.bool false)], args := [d1, d2, d3, d4, d5] }
  | _ => none }
def ScriptHoldsWrongFalsely : Prop := scriptHoldsRow.holds Try.pinned (OpenSpec.ofChange scriptHoldsWrong)

/- THE SECOND FORM. 'bulk': how many values and letters a reading holds, each counted each time it is reached (what is shared counts as often as it is met; a slice's spare places count too). A statement '..UptoSaid' is the law's where the arguments, and the package variables that the reading takes, are together of bulk at most 1048576: NARROWER than '..Said'. Prove '..Said' where nothing that the law and all that it calls make is longer than what came in: it says more and counts as full. Else prove '..UptoSaid'. A law counts once. -/
mutual
def uptoBulk {H : Type} : DataW H → Nat
  | .lit (.string bytes) => bytes.length + 1
  | .lit _ => 1
  | .nil => 1
  | .ptr d => uptoBulk d + 1
  | .slice elems spare => uptoBulkAll elems + uptoBulkAll spare + 1
  | .agg parts => uptoBulkAll parts + 1
  | .iface _ d => uptoBulk d + 1
  | .map entries => uptoBulkEntries entries + 1
  | .held _ => 1
def uptoBulkAll {H : Type} : List (DataW H) → Nat
  | [] => 0
  | d :: r => uptoBulk d + uptoBulkAll r
def uptoBulkEntries {H : Type} : List (Lit × DataW H) → Nat
  | [] => 0
  | x :: r => uptoBulkEntry x + uptoBulkEntries r
def uptoBulkEntry {H : Type} : Lit × DataW H → Nat
  | (.string bytes, d) => bytes.length + uptoBulk d + 1
  | (_, d) => uptoBulk d + 1
 end
def uptoSmall : (H : Type) → List (DataW H) → Bool := fun _ ds => decide (uptoBulkAll ds ≤ 1048576)
def OpenSpec.upto (s : _root_.Go.ChangeSpec) : _root_.Go.OpenSpec := { _root_.Go.OpenSpec.ofChange s with cond := some uptoSmall }

/-- 'ticketlinelaw04.ScriptParses', WHERE WHAT IT READS IS OF BULK AT MOST 1048576: true; the input reads as it did. -/
def scriptParsesUptoRow : OpenClaim := { program := "ytefbnamginihkaa", sum := "a8ca7553d92d9e251115f9ba46d26bd3d741e42c822705c9a8b28e7191b1c32a", func := "ticketline/ticketlinelaw04.ScriptParses", spec := "scriptParses", inPlace := ["internal/abi.NoEscape", "internal/bytealg.MakeNoZero"], apart := false, narrowed := true }
def ScriptParsesUptoSaid : Prop := scriptParsesUptoRow.holds Try.pinned (OpenSpec.upto scriptParsesSpec)

/-- 'ticketlinelaw04.ScriptWrites', WHERE WHAT IT READS IS OF BULK AT MOST 1048576: true; the input reads as it did. -/
def scriptWritesUptoRow : OpenClaim := { program := "ytefbnamginihkaa", sum := "a8ca7553d92d9e251115f9ba46d26bd3d741e42c822705c9a8b28e7191b1c32a", func := "ticketline/ticketlinelaw04.ScriptWrites", spec := "scriptWrites", inPlace := ["internal/abi.NoEscape", "internal/bytealg.MakeNoZero"], apart := false, narrowed := true }
def ScriptWritesUptoSaid : Prop := scriptWritesUptoRow.holds Try.pinned (OpenSpec.upto scriptWritesSpec)

/-- 'ticketlinelaw04.ScriptKeys', WHERE WHAT IT READS IS OF BULK AT MOST 1048576: true; the input reads as it did. -/
def scriptKeysUptoRow : OpenClaim := { program := "ytefbnamginihkaa", sum := "a8ca7553d92d9e251115f9ba46d26bd3d741e42c822705c9a8b28e7191b1c32a", func := "ticketline/ticketlinelaw04.ScriptKeys", spec := "scriptKeys", inPlace := ["internal/abi.NoEscape", "internal/bytealg.MakeNoZero"], apart := false, narrowed := true }
def ScriptKeysUptoSaid : Prop := scriptKeysUptoRow.holds Try.pinned (OpenSpec.upto scriptKeysSpec)

/-- 'ticketlinelaw04.ScriptLongs', WHERE WHAT IT READS IS OF BULK AT MOST 1048576: true; the input reads as it did. -/
def scriptLongsUptoRow : OpenClaim := { program := "ytefbnamginihkaa", sum := "a8ca7553d92d9e251115f9ba46d26bd3d741e42c822705c9a8b28e7191b1c32a", func := "ticketline/ticketlinelaw04.ScriptLongs", spec := "scriptLongs", inPlace := ["internal/abi.NoEscape", "internal/bytealg.MakeNoZero"], apart := false, narrowed := true }
def ScriptLongsUptoSaid : Prop := scriptLongsUptoRow.holds Try.pinned (OpenSpec.upto scriptLongsSpec)

/-- 'ticketlinelaw04.ScriptHolds', WHERE WHAT IT READS IS OF BULK AT MOST 1048576: true; the input reads as it did. -/
def scriptHoldsUptoRow : OpenClaim := { program := "ytefbnamginihkaa", sum := "a8ca7553d92d9e251115f9ba46d26bd3d741e42c822705c9a8b28e7191b1c32a", func := "ticketline/ticketlinelaw04.ScriptHolds", spec := "scriptHolds", inPlace := ["internal/abi.NoEscape", "internal/bytealg.MakeNoZero"], apart := false, narrowed := true }
def ScriptHoldsUptoSaid : Prop := scriptHoldsUptoRow.holds Try.pinned (OpenSpec.upto scriptHoldsSpec)

end Rows
end Go.Proofs.Ytefbnamginihkaa
