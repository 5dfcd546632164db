/-
  No cell of these rows narrows 'for every input' (looked for: loops, veiled, ifaces, maps, wideKeys, modest, calm, conditions, laid).
  DERIVED. THE GIVEN ROWS OF THIS SEAT. 6 by the template 'for every input the law returns true; each argument reads behind the call as it read before'; 0 by the template 'total and deterministic' (their statements: YtbmdoalneeeonaaTotals.lean).
  GIVEN WITH THE SEED: the statements are not yours to turn. If you find one false, say at which input.
  Laid BY PROGRAM, IN A SANDBOX (cutbox-rows.mjs): the forced cells as the released guide's own fill.sh prints them over the translation 45337376dfe398a7… (all of the seat's roots in one cut). By AI agents, Wed Nov 11 2026. No macro, syntax, notation, axiom, sorry.
-/
import Derived.Test.YtbmdoalneeeonaaChecked
import GoSem.Claim
import GoSem.ClaimJoined
import GoSem.ClaimMapViews
import Derived.JoinedTies
import Derived.KernelRfl
namespace Go.Proofs.Ytbmdoalneeeonaa
/- THE CELL 'sum', in the pinned program and in every row, IS THE sha256 OF THE DUMP (.gsa) THAT YtbmdoalneeeonaaProg.lean LOADS. Nothing in Lean hashes anything: it is a label: what it is worth is what the hold of that sum in a sandbox is worth. -/
noncomputable def Try.pinned : Pinned := { name := "ytbmdoalneeeonaa", sum := "45337376dfe398a7f0e9764c5cd9b93b85cdddb1d5b113438381c8ddb30e5f9d", checked := Try.checked }
namespace Rows
def none {H : Type} : Left H := { results := [], args := [] }

/-- 'ticketlinelaw20.ArenaWords': WHATEVER THE INPUT: true; the input reads as it did. -/
def arenaWordsSpec : ChangeSpec := { name := "arenaWords", fn := fun _ => fun
  | [d1, d2] => { results := [.lit (.bool true)], args := [d1, d2] }
  | _ => none }
def arenaWordsRow : OpenClaim := { program := "ytbmdoalneeeonaa", sum := "45337376dfe398a7f0e9764c5cd9b93b85cdddb1d5b113438381c8ddb30e5f9d", func := "ticketline/ticketlinelaw20.ArenaWords", spec := "arenaWords", apart := false }
def ArenaWordsSaid : Prop := arenaWordsRow.holds Try.pinned (OpenSpec.ofChange arenaWordsSpec)

/-- ITS FALSE NEIGHBOUR: 'it returns false'. Refute it at one input. -/
def arenaWordsWrong : ChangeSpec := { name := "arenaWords", fn := fun _ => fun
  | [d1, d2] => { results := [.lit (.bool false)], args := [d1, d2] }
  | _ => none }
def ArenaWordsWrongFalsely : Prop := arenaWordsRow.holds Try.pinned (OpenSpec.ofChange arenaWordsWrong)

/-- 'ticketlinelaw20.ArenaHolds': WHATEVER THE INPUT: true; the input reads as it did. -/
def arenaHoldsSpec : ChangeSpec := { name := "arenaHolds", fn := fun _ => fun
  | [d1, d2] => { results := [.lit (.bool true)], args := [d1, d2] }
  | _ => none }
def arenaHoldsRow : OpenClaim := { program := "ytbmdoalneeeonaa", sum := "45337376dfe398a7f0e9764c5cd9b93b85cdddb1d5b113438381c8ddb30e5f9d", func := "ticketline/ticketlinelaw20.ArenaHolds", spec := "arenaHolds", apart := false }
def ArenaHoldsSaid : Prop := arenaHoldsRow.holds Try.pinned (OpenSpec.ofChange arenaHoldsSpec)

/-- ITS FALSE NEIGHBOUR: 'it returns false'. Refute it at one input. -/
def arenaHoldsWrong : ChangeSpec := { name := "arenaHolds", fn := fun _ => fun
  | [d1, d2] => { results := [.lit (.bool false)], args := [d1, d2] }
  | _ => none }
def ArenaHoldsWrongFalsely : Prop := arenaHoldsRow.holds Try.pinned (OpenSpec.ofChange arenaHoldsWrong)

/-- 'ticketlinelaw20.ArenaMany': WHATEVER THE INPUT: true; the input reads as it did. -/
def arenaManySpec : ChangeSpec := { name := "arenaMany", fn := fun _ => fun
  | [d1, d2] => { results := [.lit (.bool true)], args := [d1, d2] }
  | _ => none }
def arenaManyRow : OpenClaim := { program := "ytbmdoalneeeonaa", sum := "45337376dfe398a7f0e9764c5cd9b93b85cdddb1d5b113438381c8ddb30e5f9d", func := "ticketline/ticketlinelaw20.ArenaMany", spec := "arenaMany", apart := false }
def ArenaManySaid : Prop := arenaManyRow.holds Try.pinned (OpenSpec.ofChange arenaManySpec)

/-- ITS FALSE NEIGHBOUR: 'it returns false'. Refute it at one input. -/
def arenaManyWrong : ChangeSpec := { name := "arenaMany", fn := fun _ => fun
  | [d1, d2] => { results := [.lit (.bool false)], args := [d1, d2] }
  | _ => none }
def ArenaManyWrongFalsely : Prop := arenaManyRow.holds Try.pinned (OpenSpec.ofChange arenaManyWrong)

/-- 'ticketlinelaw20.ArenaOpens': WHATEVER THE INPUT: true; the input reads as it did. -/
def arenaOpensSpec : ChangeSpec := { name := "arenaOpens", fn := fun _ => fun
  | [d1, d2, d3, d4, d5, d6] => { results := [.lit (.bool true)], args := [d1, d2, d3, d4, d5, d6] }
  | _ => none }
def arenaOpensRow : OpenClaim := { program := "ytbmdoalneeeonaa", sum := "45337376dfe398a7f0e9764c5cd9b93b85cdddb1d5b113438381c8ddb30e5f9d", func := "ticketline/ticketlinelaw20.ArenaOpens", spec := "arenaOpens", apart := false }
def ArenaOpensSaid : Prop := arenaOpensRow.holds Try.pinned (OpenSpec.ofChange arenaOpensSpec)

/-- ITS FALSE NEIGHBOUR: 'it returns false'. Refute it at one input. -/
def arenaOpensWrong : ChangeSpec := { name := "arenaOpens", fn := fun _ => fun
  | [d1, d2, d3, d4, d5, d6] => { results := [.lit (.bool false)], args := [d1, d2, d3, d4, d5, d6] }
  | _ => none }
def ArenaOpensWrongFalsely : Prop := arenaOpensRow.holds Try.pinned (OpenSpec.ofChange arenaOpensWrong)

/-- 'ticketlinelaw20.ArenaFormats': WHATEVER THE INPUT: true; the input reads as it did. -/
def arenaFormatsSpec : ChangeSpec := { name := "arenaFormats", fn := fun _ => fun
  | [d1, d2] => { results := [.lit (.bool true)], args := [d1, d2] }
  | _ => none }
def arenaFormatsRow : OpenClaim := { program := "ytbmdoalneeeonaa", sum := "45337376dfe398a7f0e9764c5cd9b93b85cdddb1d5b113438381c8ddb30e5f9d", func := "ticketline/ticketlinelaw20.ArenaFormats", spec := "arenaFormats", apart := false }
def ArenaFormatsSaid : Prop := arenaFormatsRow.holds Try.pinned (OpenSpec.ofChange arenaFormatsSpec)

/-- ITS FALSE NEIGHBOUR: 'it returns false'. Refute it at one input. -/
def arenaFormatsWrong : ChangeSpec := { name := "arenaFormats", fn := fun _ => fun
  | [d1, d2] => { results := [.lit (.bool false)], args := [d1, d2] }
  | _ => none }
def ArenaFormatsWrongFalsely : Prop := arenaFormatsRow.holds Try.pinned (OpenSpec.ofChange arenaFormatsWrong)

/-- 'ticketlinelaw20.ArenaPlays': WHATEVER THE INPUT: true; the input reads as it did. -/
def arenaPlaysSpec : ChangeSpec := { name := "arenaPlays", fn := fun _ => fun
  | [d1, d2, d3] => { results := [.lit (.bool true)], args := [d1, d2, d3] }
  | _ => none }
def arenaPlaysRow : OpenClaim := { program := "ytbmdoalneeeonaa", sum := "45337376dfe398a7f0e9764c5cd9b93b85cdddb1d5b113438381c8ddb30e5f9d", func := "ticketline/ticketlinelaw20.ArenaPlays", spec := "arenaPlays", apart := false }
def ArenaPlaysSaid : Prop := arenaPlaysRow.holds Try.pinned (OpenSpec.ofChange arenaPlaysSpec)

/-- ITS FALSE NEIGHBOUR: 'it returns false'. Refute it at one input. -/
def arenaPlaysWrong : ChangeSpec := { name := "arenaPlays", fn := fun _ => fun
  | [d1, d2, d3] => { results := [.lit (.bool false)], args := [d1, d2, d3] }
  | _ => none }
def ArenaPlaysWrongFalsely : Prop := arenaPlaysRow.holds Try.pinned (OpenSpec.ofChange arenaPlaysWrong)

/- THE SECOND FORM. 'bulk': how many values and letters a reading holds, each counted each time it is reached (what is shared counts as often as it is met; a slice's spare places count too). A statement '..UptoSaid' is the law's where the arguments, and the package variables that the reading takes, are together of bulk at most 1048576: NARROWER than '..Said'. Prove '..Said' where nothing that the law and all that it calls make is longer than what came in: it says more and counts as full. Else prove '..UptoSaid'. A law counts once. -/
mutual
def uptoBulk {H : Type} : DataW H → Nat
  | .lit (.string bytes) => bytes.length + 1
  | .lit _ => 1
  | .nil => 1
  | .ptr d => uptoBulk d + 1
  | .slice elems spare => uptoBulkAll elems + uptoBulkAll spare + 1
  | .agg parts => uptoBulkAll parts + 1
  | .iface _ d => uptoBulk d + 1
  | .map entries => uptoBulkEntries entries + 1
  | .held _ => 1
def uptoBulkAll {H : Type} : List (DataW H) → Nat
  | [] => 0
  | d :: r => uptoBulk d + uptoBulkAll r
def uptoBulkEntries {H : Type} : List (Lit × DataW H) → Nat
  | [] => 0
  | x :: r => uptoBulkEntry x + uptoBulkEntries r
def uptoBulkEntry {H : Type} : Lit × DataW H → Nat
  | (.string bytes, d) => bytes.length + uptoBulk d + 1
  | (_, d) => uptoBulk d + 1
 end
def uptoSmall : (H : Type) → List (DataW H) → Bool := fun _ ds => decide (uptoBulkAll ds ≤ 1048576)
def OpenSpec.upto (s : _root_.Go.ChangeSpec) : _root_.Go.OpenSpec := { _root_.Go.OpenSpec.ofChange s with cond := some uptoSmall }

/-- 'ticketlinelaw20.ArenaWords', WHERE WHAT IT READS IS OF BULK AT MOST 1048576: true; the input reads as it did. -/
def arenaWordsUptoRow : OpenClaim := { program := "ytbmdoalneeeonaa", sum := "45337376dfe398a7f0e9764c5cd9b93b85cdddb1d5b113438381c8ddb30e5f9d", func := "ticketline/ticketlinelaw20.ArenaWords", spec := "arenaWords", apart := false, narrowed := true }
def ArenaWordsUptoSaid : Prop := arenaWordsUptoRow.holds Try.pinned (OpenSpec.upto arenaWordsSpec)

/-- 'ticketlinelaw20.ArenaHolds', WHERE WHAT IT READS IS OF BULK AT MOST 1048576: true; the input reads as it did. -/
def arenaHoldsUptoRow : OpenClaim := { program := "ytbmdoalneeeonaa", sum := "45337376dfe398a7f0e9764c5cd9b93b85cdddb1d5b113438381c8ddb30e5f9d", func := "ticketline/ticketlinelaw20.ArenaHolds", spec := "arenaHolds", apart := false, narrowed := true }
def ArenaHoldsUptoSaid : Prop := arenaHoldsUptoRow.holds Try.pinned (OpenSpec.upto arenaHoldsSpec)

/-- 'ticketlinelaw20.ArenaMany', WHERE WHAT IT READS IS OF BULK AT MOST 1048576: true; the input reads as it did. -/
def arenaManyUptoRow : OpenClaim := { program := "ytbmdoalneeeonaa", sum := "45337376dfe398a7f0e9764c5cd9b93b85cdddb1d5b113438381c8ddb30e5f9d", func := "ticketline/ticketlinelaw20.ArenaMany", spec := "arenaMany", apart := false, narrowed := true }
def ArenaManyUptoSaid : Prop := arenaManyUptoRow.holds Try.pinned (OpenSpec.upto arenaManySpec)

/-- 'ticketlinelaw20.ArenaOpens', WHERE WHAT IT READS IS OF BULK AT MOST 1048576: true; the input reads as it did. -/
def arenaOpensUptoRow : OpenClaim := { program := "ytbmdoalneeeonaa", sum := "45337376dfe398a7f0e9764c5cd9b93b85cdddb1d5b113438381c8ddb30e5f9d", func := "ticketline/ticketlinelaw20.ArenaOpens", spec := "arenaOpens", apart := false, narrowed := true }
def ArenaOpensUptoSaid : Prop := arenaOpensUptoRow.holds Try.pinned (OpenSpec.upto arenaOpensSpec)

/-- 'ticketlinelaw20.ArenaFormats', WHERE WHAT IT READS IS OF BULK AT MOST 1048576: true; the input reads as it did. -/
def arenaFormatsUptoRow : OpenClaim := { program := "ytbmdoalneeeonaa", sum := "45337376dfe398a7f0e9764c5cd9b93b85cdddb1d5b113438381c8ddb30e5f9d", func := "ticketline/ticketlinelaw20.ArenaFormats", spec := "arenaFormats", apart := false, narrowed := true }
def ArenaFormatsUptoSaid : Prop := arenaFormatsUptoRow.holds Try.pinned (OpenSpec.upto arenaFormatsSpec)

/-- 'ticketlinelaw20.ArenaPlays', WHERE WHAT IT READS IS OF BULK AT MOST 1048576: true; the input reads as it did. -/
def arenaPlaysUptoRow : OpenClaim := { program := "ytbmdoalneeeonaa", sum := "45337376dfe398a7f0e9764c5cd9b93b85cdddb1d5b113438381c8ddb30e5f9d", func := "ticketline/ticketlinelaw20.ArenaPlays", spec := "arenaPlays", apart := false, narrowed := true }
def ArenaPlaysUptoSaid : Prop := arenaPlaysUptoRow.holds Try.pinned (OpenSpec.upto arenaPlaysSpec)

end Rows
end Go.Proofs.Ytbmdoalneeeonaa
