/- Arenas: what formatting a memory gives, which errors there are, allocation and the root. -/
import Derived.Test.YtbmdoalneeeonabA1
set_option linter.unusedVariables false
set_option linter.unusedSimpArgs false
namespace Go.Ev.L
open Go Go.Ev Go.Ev.M

/-- a page is allocated -/
def allocW (w : List Int) (p : List Int) : List Int := putW (wr w 1 (G w (pl (G w 1) 10))) (G w 1) p
theorem Sz.wr {w : List Int} {n : Int} (h : Sz w n) {i v : Int} (hi : 1 ≤ i) (h1 : i < w.length) (h0 : 0 ≤ v) (hv : v < 18446744073709551616) : Sz (wr w i v) n :=
  ⟨h.lo, h.hi, by rw [G_wr_ne (by omega) h1 _ (by omega) (by omega)]; exact h.pages, by rw [wr_length]; exact h.room, by rw [wr_length]; exact h.len, U64_wr h.u _ h0 hv⟩
theorem Sz.put {w : List Int} {n page : Int} (h : Sz w n) (h0 : 1 ≤ page) {p : List Int} (hp : U64 p) : Sz (putW w page p) n :=
  ⟨h.lo, h.hi, by rw [G_putW (by omega) (by have := h.big; omega), if_neg (by unfold pl; omega)]; exact h.pages, by rw [putW_length]; exact h.room, by rw [putW_length]; exact h.len, U64_putW h.u hp _⟩
theorem Sz.alloc {w p : List Int} {n : Int} (h : Sz w n) (hp : U64 p) (h0 : 1 ≤ G w 1) : Sz (allocW w p) n := by
  have hb := h.big
  have hl := h.u.G (pl (G w 1) 10)
  exact (h.wr (i := 1) (by omega) (by omega) hl.1 hl.2).put h0 hp
end Go.Ev.L
