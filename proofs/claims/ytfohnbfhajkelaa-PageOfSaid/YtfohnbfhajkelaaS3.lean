/- Law 15: a plan's own keys; the stage's theorem. -/
import Derived.Test.YtfohnbfhajkelaaS2
set_option linter.unusedVariables false
set_option linter.unusedSimpArgs false
set_option maxRecDepth 10000
namespace Go.Ev.L
open Go Go.Ev Go.Ev.M

theorem posS_own {l : List Pr} (hs : srt l = true) {i : Nat} (hi : i < l.length) : posS (l[i]).1 l = i ∧ isS (l[i]).1 l = true := by
  have e : posS (l[i]).1 l = i := posS_eq (by omega) (fun j hj hji => srt_lt hs j i hji hi) (fun _ => strLt_irrefl _)
  exact ⟨e, by rw [isS_get e hi, strEq_refl]⟩

section
variable {p : List Int} (hp : PageOK p) (hs : srtB p = true)
include hp hs

end

end Go.Ev.L
