/- Memories: what an access of a word gives; the words of a page in a memory. -/
import Derived.Test.YtbmdoalneeeonabMA
import Derived.Test.YtbmdoalneeeonabPgB
set_option linter.unusedVariables false
set_option linter.unusedSimpArgs false
namespace Go.Ev.L
open Go Go.Ev Go.Ev.M

/-- a word changed -/
def wr (w : List Int) (i v : Int) : List Int := w.set i.toNat v
theorem wr_length (w : List Int) (i v : Int) : (wr w i v).length = w.length := by simp [wr]
theorem G_wr {w : List Int} {i : Int} (h0 : 0 ≤ i) (h1 : i < w.length) (v : Int) {j : Int} (hj : 0 ≤ j) : G (wr w i v) j = if j = i then v else G w j := by
  unfold wr
  have hi : i.toNat < w.length := by omega
  rw [G_set hi j hj, show ((i.toNat : Nat) : Int) = i by omega]
theorem G_wr_ne {w : List Int} {i : Int} (h0 : 0 ≤ i) (h1 : i < w.length) (v : Int) {j : Int} (hj : 0 ≤ j) (hne : j ≠ i) : G (wr w i v) j = G w j := by rw [G_wr h0 h1 v hj, if_neg hne]

/-- a table -/
def tab (n : Nat) (f : Int → Int) : List Int := (List.range n).map fun j : Nat => f (j : Int)
theorem tab_length (n : Nat) (f : Int → Int) : (tab n f).length = n := by simp [tab]
theorem G_tab {n : Nat} {f : Int → Int} {j : Int} (h0 : 0 ≤ j) (h1 : j < n) : G (tab n f) j = f j := by
  have hlt : j.toNat < (tab n f).length := by rw [tab_length]; omega
  have := G_get hlt
  rw [show ((j.toNat : Nat) : Int) = j by omega] at this
  rw [this]
  simp only [tab, List.getElem_map, List.getElem_range]
  rw [show ((j.toNat : Nat) : Int) = j by omega]

theorem U64_wr {w : List Int} (h : U64 w) (i : Int) {v : Int} (h0 : 0 ≤ v) (h1 : v < 18446744073709551616) : U64 (wr w i v) := by
  intro x hx
  rcases List.mem_or_eq_of_mem_set hx with hx | rfl
  · exact h x hx
  · exact ⟨h0, h1⟩
theorem U64_tab {n : Nat} {f : Int → Int} (h : ∀ j : Int, 0 ≤ j → j < n → 0 ≤ f j ∧ f j < 18446744073709551616) : U64 (tab n f) := by
  intro x hx
  obtain ⟨j, hj, rfl⟩ := List.mem_map.1 hx
  have hj := List.mem_range.1 hj
  exact h (j : Int) (by omega) (by omega)
/-- where a word of a page is -/
def pl (p i : Int) : Int := 16 + 128 * (p - 1) + i
theorem place_eq {p i : Int} (h0 : -10000 ≤ p) (h1 : p ≤ 10000) (h2 : -10000 ≤ i) (h3 : i ≤ 10000) : m_arena_place p i = some (pl p i) := by
  unfold m_arena_place pl
  rw [wI (x := p - 1) (by omega) (by omega), wI (x := 128 * (p - 1)) (by omega) (by omega), wI (x := 16 + 128 * (p - 1)) (by omega) (by omega), wI (by omega) (by omega)]
/-- a memory with room for a page -/
structure Fit (w : List Int) (p : Int) : Prop where
  lo : 1 ≤ p
  hi : p ≤ 511
  room : pl p 128 ≤ w.length
  len : w.length ≤ 65536
theorem Fit.wr {w : List Int} {p : Int} (h : Fit w p) (i v : Int) : Fit (wr w i v) p := ⟨h.lo, h.hi, by rw [wr_length]; exact h.room, by rw [wr_length]; exact h.len⟩
theorem Fit.at {w : List Int} {p : Int} (h : Fit w p) {i : Int} (h0 : 0 ≤ i) (h1 : i < 128) : 16 ≤ pl p i ∧ pl p i < w.length ∧ m_arena_place p i = some (pl p i) := by
  have := h.lo; have := h.hi; have := h.room
  refine ⟨by unfold pl; omega, by unfold pl at *; omega, place_eq (by omega) (by omega) (by omega) (by omega)⟩

/-- a page's words from i on are others -/
def putFrom (w : List Int) (page : Int) (p : List Int) (i : Int) : List Int := tab w.length fun j => if pl page i ≤ j ∧ j < pl page 128 then G p (j - pl page 0) else G w j
def putW (w : List Int) (page : Int) (p : List Int) : List Int := putFrom w page p 8
theorem putW_length (w : List Int) (page : Int) (p : List Int) : (putW w page p).length = w.length := by unfold putW putFrom; exact tab_length _ _
theorem G_putW {w : List Int} {page : Int} {p : List Int} {j : Int} (h0 : 0 ≤ j) (h1 : j < w.length) : G (putW w page p) j = if pl page 8 ≤ j ∧ j < pl page 128 then G p (j - pl page 0) else G w j := by unfold putW putFrom; exact G_tab h0 h1
theorem Fit.put {w : List Int} {p : Int} (h : Fit w p) (q : Int) (x : List Int) : Fit (putW w q x) p := ⟨h.lo, h.hi, by rw [putW_length]; exact h.room, by rw [putW_length]; exact h.len⟩
theorem U64_putW {w p : List Int} (hw : U64 w) (hp : U64 p) (page : Int) : U64 (putW w page p) := by
  unfold putW putFrom
  refine U64_tab fun j _ _ => ?_
  split
  · exact hp.G _
  · exact hw.G _

/-- the kind of a page -/
def K (w : List Int) (p : Int) : Int := G w (pl p 8)
structure Sz (w : List Int) (n : Int) : Prop where
  lo : 1 ≤ n
  hi : n ≤ 511
  pages : G w 0 = n
  room : pl n 128 ≤ w.length
  len : w.length ≤ 65536
  u : U64 w
theorem Sz.big {w : List Int} {n : Int} (h : Sz w n) : 144 ≤ w.length := by have := h.room; have := h.lo; unfold pl at *; omega
end Go.Ev.L
