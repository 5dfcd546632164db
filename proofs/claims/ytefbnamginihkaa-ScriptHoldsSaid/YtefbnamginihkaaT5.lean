/- Seat 04: the reference's shortest bytes. -/
import Derived.Test.YtefbnamginihkaaT4
set_option linter.unusedVariables false
set_option linter.unusedSimpArgs false
set_option maxRecDepth 10000
namespace Go.Ev.L.T4
open Go Go.Ev Go.Ev.M Go.Ev.L

theorem RB2 {x p : Int} (hx : 0 ≤ x ∧ x < 256) (hp : 0 ≤ p ∧ p < 256) : RB [x, p] := by
  intro y hy; simp only [List.mem_cons, List.not_mem_nil, or_false] at hy; rcases hy with rfl | rfl <;> assumption
theorem RB.append {a b : List Int} (h : RB a) (h' : RB b) : RB (a ++ b) := fun x hx => (List.mem_append.1 hx).elim (h x) (h' x)
theorem at_cons (a : Int) (l : List Int) (i : Nat) : at' (a :: l) (i + 1) = at' l i := by unfold at'; rfl
theorem at_zero (a : Int) (l : List Int) : at' (a :: l) 0 = a := rfl
theorem next_req {x p : Int} (hx : x % 8 = 5) (l : List Int) (t : Int) : nextS (x :: p :: l) t = startS (x / 8 % t) p (at' l 0) (at' l 1) (at' l 2) := by
  unfold nextS opS
  rw [at_zero, if_neg (by omega), if_neg (by omega), if_pos (by omega)]
  rfl
theorem leastV_range {s : ByteArray} {a : Nat} (h : valuedS s = some a) : (a : Int) < 256 ∧ valS a = s := by
  have := leastV_spec h
  exact ⟨by omega, this.2.2⟩
end Go.Ev.L.T4
