/- Where slots are parted. -/
import Derived.Test.YtfohnbfhajkelaaO5
set_option linter.unusedVariables false
set_option linter.unusedSimpArgs false
set_option linter.unusedSectionVars false
set_option maxRecDepth 10000
namespace Go.Ev.L
open Go Go.Ev Go.Ev.M

theorem sumC_append (a b : List Pr) : sumC (a ++ b) = sumC a + sumC b := recs_sum.sumC_append a b
def pre (l : List Pr) (i : Nat) : Int := sumC (l.take i)
theorem pre_split (l : List Pr) (i : Nat) : pre l i + sumC (l.drop i) = sumC l := by
  unfold pre; rw [← sumC_append, List.take_append_drop]
theorem SmallL.take {l : List Pr} (h : SmallL l) (i : Nat) : SmallL (l.take i) := ⟨by rw [List.length_take]; have := h.1; omega, fun x hx => h.2 x (List.mem_of_mem_take hx)⟩
theorem SmallL.drop {l : List Pr} (h : SmallL l) (i : Nat) : SmallL (l.drop i) := ⟨by rw [List.length_drop]; have := h.1; omega, fun x hx => h.2 x (List.mem_of_mem_drop hx)⟩
theorem win_take {l : List Pr} {i : Nat} : win l 0 ((i : Int) - 0) = l.take i := by
  unfold win; simp
theorem win_drop {l : List Pr} {i : Nat} : win l i ((l.length : Int) - i) = l.drop i := by
  unfold win
  rw [Int.toNat_natCast, List.take_of_length_le (by rw [List.length_drop]; omega)]
end Go.Ev.L
