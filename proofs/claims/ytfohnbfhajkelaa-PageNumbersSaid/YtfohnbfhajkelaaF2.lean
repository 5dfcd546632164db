/- Law 19: links; the stage's theorem. -/
import Derived.Test.YtfohnbfhajkelaaF1
import Derived.Test.YtfohnbfhajkelaaPgB
set_option linter.unusedVariables false
set_option linter.unusedSimpArgs false
set_option maxRecDepth 10000
namespace Go.Ev.L
open Go Go.Ev Go.Ev.M

theorem list_ext_G {p q : List Int} (h : p.length = q.length) (hg : ∀ i : Nat, i < p.length → G p i = G q i) : p = q := by
  refine List.ext_getElem h fun i h1 h2 => ?_
  have := hg i h1
  rwa [G_get h1, G_get h2] at this

theorem G_win {l : List Int} {a n : Int} (h0 : 0 ≤ a) (j : Int) (h1 : 0 ≤ j) (h2 : j < n) : G (win l a n) j = G l (a + j) := by
  unfold G win
  simp only [List.getD_eq_getElem?_getD, List.getElem?_take, List.getElem?_drop]
  rw [if_pos (by omega), show a.toNat + j.toNat = (a + j).toNat by omega]
theorem G_out {l : List Int} {j : Int} (h : (l.length : Int) ≤ j) : G l j = 0 := by
  unfold G
  rw [List.getD_eq_getElem?_getD, List.getElem?_eq_none (by omega)]; rfl
theorem G_append {l m : List Int} (j : Int) (h0 : 0 ≤ j) : G (l ++ m) j = if j < l.length then G l j else G m (j - l.length) := by
  unfold G
  simp only [List.getD_eq_getElem?_getD]
  by_cases c : j < l.length
  · rw [if_pos c, List.getElem?_append_left (by omega)]
  · rw [if_neg c, List.getElem?_append_right (by omega), show j.toNat - l.length = (j - l.length).toNat by omega]
theorem G_emptyHigh {level : Int} {low high : ByteArray} (hl : low.size ≤ 24) (hh : high.size ≤ 24) (j : Int) (h0 : 16 ≤ j) (h1 : j < 20) : G (emptyS level low high) j = if j = 16 then (high.size : Int) else G (packS high) (j - 17) := by
  have p1 := packS_len3 hl
  have p2 := packS_len3 hh
  unfold emptyS
  rw [G_splice (by omega) (by rw [splice_length _ _ (by omega) (by simp; omega)]; simp; omega) j (by omega), G_splice (by omega) (by simp; omega) j (by omega)]
  by_cases c1 : j = 16
  · rw [if_neg (by omega), if_neg (by omega), G_set (by simp) j (by omega), if_pos (by omega), if_pos c1]
  · rw [if_neg c1]
    by_cases c2 : 17 ≤ j ∧ j < 17 + ((packS high).length : Int)
    · rw [if_pos c2]
    · rw [if_neg c2, if_neg (by omega), G_set (by simp) j (by omega), if_neg (by omega), G_set (by simp) j (by omega), if_neg (by omega), G_set (by simp) j (by omega), if_neg (by omega), G_set (by simp) j (by omega), if_neg (by omega), G_out (l := packS high) (by omega)]
      unfold G
      rw [List.getD_eq_getElem?_getD, List.getElem?_replicate]; split <;> rfl

end Go.Ev.L
