/- The evaluator with stops: at a cut or a loop the rest may stand for itself. -/
import Derived.Test.YtbmdoalneeeonabEvC
set_option linter.unusedVariables false
namespace Go.Ev
open Go

/-- what stands at a cut (by its first region), and at a loop (by its first region) -/
structure Stops (R : Type) where
  cut : Nat → Option (St → (Ex → St → Option R) → Option R)
  loop : Nat → Option ((Ex → St → Option R) → Nat → St → Option R)

/-- the stops that say what is there -/
def Stops.right {R : Type} (C : Cx) (ann : Nat → Ann) (X : Stops R) : Code → Prop
  | .seq a b => X.right C ann a ∧ X.right C ann b ∧ ∀ F, X.cut (firstRegion b) = some F → F = evalK C ann b
  | .cond _ a b => X.right C ann a ∧ X.right C ann b
  | .block _ a => X.right C ann a
  | .scope a => X.right C ann a
  | .loop a => X.right C ann a ∧ ∀ F, X.loop (firstRegion a) = some F → F = fun k n s => loopK (nrm (ann (firstRegion a))) (evalK C ann a) k n s
  | _ => True

def lookF {α : Type} : List (Nat × α) → Nat → Option α
  | [], _ => none
  | (i, a) :: l, r => bif Nat.beq i r then some a else lookF l r
def stops {R : Type} (l : List (Nat × (St → (Ex → St → Option R) → Option R))) : Stops R := ⟨lookF l, fun _ => none⟩
end Go.Ev
