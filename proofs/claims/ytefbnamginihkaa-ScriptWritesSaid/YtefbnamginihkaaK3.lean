/- Law 05: the words of strings, the strings of words. -/
import Derived.Test.YtefbnamginihkaaK2
set_option linter.unusedVariables false
set_option linter.unusedSimpArgs false
set_option maxRecDepth 10000
namespace Go.Ev.L
open Go Go.Ev Go.Ev.M

/-- the word of eight bytes -/
def wd (f : Nat → Int) (j : Nat) : Int := 72057594037927936 * f (8 * j) + 281474976710656 * f (8 * j + 1) + 1099511627776 * f (8 * j + 2) + 4294967296 * f (8 * j + 3) + 16777216 * f (8 * j + 4) + 65536 * f (8 * j + 5) + 256 * f (8 * j + 6) + f (8 * j + 7)
theorem B_strOf' {l : List Int} (h : ∀ x, x ∈ l → 0 ≤ x ∧ x < 256) (j : Nat) : B (strOf l) j = l.getD j 0 := by
  unfold B strOf
  simp only [List.getD_eq_getElem?_getD, List.getElem?_map]
  cases e : l[j]? with
  | none => simp
  | some x =>
    have hx := h x (List.mem_of_getElem? e)
    simp; omega
end Go.Ev.L
