/- Law 19: the stage's theorem. -/
import Derived.Test.YtfohnbfhajkelaaF2
set_option linter.unusedVariables false
set_option linter.unusedSimpArgs false
set_option linter.unusedSectionVars false
set_option maxRecDepth 10000
namespace Go.Ev.L
open Go Go.Ev Go.Ev.M

/-- the words of the slots are the same -/
structure AgreeS (p q : List Int) : Prop where
  kind : G q 8 = G p 8
  cnt : G q 9 = G p 9
  top : G q 11 = G p 11
  dir : ∀ j, 20 ≤ j → j < 20 + (count p : Int) → G q j = G p j
  recs : ∀ i : Nat, i < count p → ∀ j, atS (sw p i) ≤ j → j < endS (sw p i) → G q j = G p j
section
variable {p q : List Int} (hp : PageOK p) (hq : PageOK q) (hv : validB p = true) (h : AgreeS p q)
include h
include hp hq
include hv
end

/-- a fence that was written -/
theorem fence_written {q : List Int} (hq : PageOK q) {a : Int} (h0 : 0 ≤ a) (h1 : a ≤ 100) {s : ByteArray} (hs : s.size ≤ 24) (g0 : G q a = s.size) (g1 : ∀ j, 0 ≤ j → j < 3 → G q (a + 1 + j) = G (packS s) j) : fenceS q a = some s := by
  have p3 := packS_len3 hs
  have hlen := hq.1
  unfold fenceS
  rw [g0, if_neg (by omega)]
  have hw : win q (a + 1) 3 = packS s ++ List.replicate (3 - (packS s).length) 0 := by
    refine list_ext_G (by rw [win_len (by omega) (by omega) (by omega)]; simp; omega) fun i hi => ?_
    rw [win_len (by omega) (by omega) (by omega)] at hi
    have hi : i < 3 := by simpa using hi
    rw [G_win (by omega) _ (by omega) (by omega), g1 _ (by omega) (by omega), G_append _ (by omega)]
    by_cases c : (i : Int) < (packS s).length
    · rw [if_pos c]
    · rw [if_neg c, G_out (by omega)]
      unfold G
      rw [List.getD_eq_getElem?_getD, List.getElem?_replicate]; split <;> rfl
  rw [hw, U_pack_zero s (fun x hx => by rw [List.mem_replicate] at hx; omega) (by rw [List.all_eq_true]; intro x hx; rw [List.mem_replicate] at hx; simp [hx.2])]

section
variable {p : List Int} (hp : PageOK p) (hv : validB p = true) {next : Int} (h0 : 0 ≤ next) (h1 : next ≤ 511) {high : ByteArray} (hh : high.size ≤ 24)
include hp hv h0 h1 hh
end

theorem strLt_empty (x : ByteArray) : strLt x eB = false := by
  unfold strLt
  rw [ByteArray.toList_eq, ByteArray.toList_eq]
  show Op.bytesLess _ [] = false
  cases x.data.toList <;> rfl

section
variable {p q : List Int} (hp : PageOK p) (hq : PageOK q) (vp : validB p = true) (vq : validB q = true) {number : Int} (h0 : 1 ≤ number) (h1 : number ≤ 511)
include hp hq vp vq h0 h1

end

end Go.Ev.L
