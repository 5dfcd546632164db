/- Memories: what an access of a word gives; the words of a page in a memory. -/
import Derived.Test.YtbmdoalneeeonaaMA
import Derived.Test.YtbmdoalneeeonaaPgB
set_option linter.unusedVariables false
set_option linter.unusedSimpArgs false
namespace Go.Ev.L
open Go Go.Ev Go.Ev.M

abbrev AR (w : List Int) : ((((List Int) × Unit) × Unit) × Unit) := (((w, ()), ()), ())
/-- a word changed -/
def wr (w : List Int) (i v : Int) : List Int := w.set i.toNat v
theorem wr_length (w : List Int) (i v : Int) : (wr w i v).length = w.length := by simp [wr]
theorem G_wr {w : List Int} {i : Int} (h0 : 0 ≤ i) (h1 : i < w.length) (v : Int) {j : Int} (hj : 0 ≤ j) : G (wr w i v) j = if j = i then v else G w j := by
  unfold wr
  have hi : i.toNat < w.length := by omega
  rw [G_set hi j hj, show ((i.toNat : Nat) : Int) = i by omega]
theorem G_wr_same {w : List Int} {i : Int} (h0 : 0 ≤ i) (h1 : i < w.length) (v : Int) : G (wr w i v) i = v := by rw [G_wr h0 h1 v h0, if_pos rfl]
theorem G_wr_ne {w : List Int} {i : Int} (h0 : 0 ≤ i) (h1 : i < w.length) (v : Int) {j : Int} (hj : 0 ≤ j) (hne : j ≠ i) : G (wr w i v) j = G w j := by rw [G_wr h0 h1 v hj, if_neg hne]

theorem ext_G {l m : List Int} (hl : l.length = m.length) (h : ∀ j : Int, 0 ≤ j → j < l.length → G l j = G m j) : l = m := by
  apply List.ext_getElem hl
  intro i h1 h2
  have := h (i : Int) (by omega) (by omega)
  rw [G_get h1, G_get h2] at this
  exact this

/-- a table -/
def tab (n : Nat) (f : Int → Int) : List Int := (List.range n).map fun j : Nat => f (j : Int)
theorem tab_length (n : Nat) (f : Int → Int) : (tab n f).length = n := by simp [tab]
theorem G_tab {n : Nat} {f : Int → Int} {j : Int} (h0 : 0 ≤ j) (h1 : j < n) : G (tab n f) j = f j := by
  have hlt : j.toNat < (tab n f).length := by rw [tab_length]; omega
  have := G_get hlt
  rw [show ((j.toNat : Nat) : Int) = j by omega] at this
  rw [this]
  simp only [tab, List.getElem_map, List.getElem_range]
  rw [show ((j.toNat : Nat) : Int) = j by omega]

theorem U64_wr {w : List Int} (h : U64 w) (i : Int) {v : Int} (h0 : 0 ≤ v) (h1 : v < 18446744073709551616) : U64 (wr w i v) := by
  intro x hx
  rcases List.mem_or_eq_of_mem_set hx with hx | rfl
  · exact h x hx
  · exact ⟨h0, h1⟩
theorem U64_tab {n : Nat} {f : Int → Int} (h : ∀ j : Int, 0 ≤ j → j < n → 0 ≤ f j ∧ f j < 18446744073709551616) : U64 (tab n f) := by
  intro x hx
  obtain ⟨j, hj, rfl⟩ := List.mem_map.1 hx
  have hj := List.mem_range.1 hj
  exact h (j : Int) (by omega) (by omega)
theorem U64_rep (n : Nat) : U64 (List.replicate n 0) := fun x hx => by rw [(List.mem_replicate.1 hx).2]; exact ⟨by omega, by omega⟩

theorem mem_Load {w : List Int} {i : Int} (h0 : 0 ≤ i) (h1 : i < w.length) : m_mem_Mem_Load (w, ()) i = some (G w i, (0 : Int), (w, ())) := by
  have hw : ¬ w = [] := by intro e; subst e; simp at *; try omega
  unfold m_mem_Mem_Load m_mem_Mem_Do
  simp [hw, h0, h1, show ¬ i < 0 by omega, show ¬ i ≥ (w.length : Int) by omega, rd_G]
theorem mem_Store {w : List Int} {i : Int} (h0 : 0 ≤ i) (h1 : i < w.length) (v : Int) : m_mem_Mem_Store (w, ()) i v = some ((0 : Int), (wr w i v, ())) := by
  have hw : ¬ w = [] := by intro e; subst e; simp at *; try omega
  unfold m_mem_Mem_Store m_mem_Mem_Do
  simp [hw, h0, h1, show ¬ i < 0 by omega, show ¬ i ≥ (w.length : Int) by omega, wr]
theorem mem_New {n : Int} (h0 : 1 ≤ n) (h1 : n ≤ 65536) : m_mem_New n = some (some (List.replicate n.toNat 0, ()), (0 : Int)) := by
  unfold m_mem_New
  have hf : fits n.toNat 8 := by unfold fits; omega
  simp [show ¬ n < 1 by omega, show ¬ n > 65536 by omega, show 0 ≤ n by omega, hf]
theorem clone_w {w : List Int} (h0 : 0 < w.length) (h1 : w.length ≤ 1000000) : m_slices_Clone_uint64_uint64 w = some w := by
  unfold m_slices_Clone_uint64_uint64
  have hf : fits (0 + w.length) 8 := by unfold fits; omega
  simp only [h0, if_true, List.length_nil, hf, List.nil_append]
theorem mem_Copy {w : List Int} (h0 : 0 < w.length) (h1 : w.length ≤ 1000000) : m_mem_Mem_Copy (w, ()) = some ((w, ()), (w, ())) := by
  unfold m_mem_Mem_Copy
  have hw : ¬ w = [] := by intro e; subst e; simp at *; try omega
  simp [hw, clone_w h0 h1]

/-- where a word of a page is -/
def pl (p i : Int) : Int := 16 + 128 * (p - 1) + i
theorem place_eq {p i : Int} (h0 : -10000 ≤ p) (h1 : p ≤ 10000) (h2 : -10000 ≤ i) (h3 : i ≤ 10000) : m_arena_place p i = some (pl p i) := by
  unfold m_arena_place pl
  rw [wI (x := p - 1) (by omega) (by omega), wI (x := 128 * (p - 1)) (by omega) (by omega), wI (x := 16 + 128 * (p - 1)) (by omega) (by omega), wI (by omega) (by omega)]
/-- a memory with room for a page -/
structure Fit (w : List Int) (p : Int) : Prop where
  lo : 1 ≤ p
  hi : p ≤ 511
  room : pl p 128 ≤ w.length
  len : w.length ≤ 65536
theorem Fit.wr {w : List Int} {p : Int} (h : Fit w p) (i v : Int) : Fit (wr w i v) p := ⟨h.lo, h.hi, by rw [wr_length]; exact h.room, by rw [wr_length]; exact h.len⟩
theorem Fit.at {w : List Int} {p : Int} (h : Fit w p) {i : Int} (h0 : 0 ≤ i) (h1 : i < 128) : 16 ≤ pl p i ∧ pl p i < w.length ∧ m_arena_place p i = some (pl p i) := by
  have := h.lo; have := h.hi; have := h.room
  refine ⟨by unfold pl; omega, by unfold pl at *; omega, place_eq (by omega) (by omega) (by omega) (by omega)⟩

/-- a page's words from i on are others -/
def putFrom (w : List Int) (page : Int) (p : List Int) (i : Int) : List Int := tab w.length fun j => if pl page i ≤ j ∧ j < pl page 128 then G p (j - pl page 0) else G w j
def putW (w : List Int) (page : Int) (p : List Int) : List Int := putFrom w page p 8
theorem putW_length (w : List Int) (page : Int) (p : List Int) : (putW w page p).length = w.length := by unfold putW putFrom; exact tab_length _ _
theorem G_putW {w : List Int} {page : Int} {p : List Int} {j : Int} (h0 : 0 ≤ j) (h1 : j < w.length) : G (putW w page p) j = if pl page 8 ≤ j ∧ j < pl page 128 then G p (j - pl page 0) else G w j := by unfold putW putFrom; exact G_tab h0 h1
theorem Fit.put {w : List Int} {p : Int} (h : Fit w p) (q : Int) (x : List Int) : Fit (putW w q x) p := ⟨h.lo, h.hi, by rw [putW_length]; exact h.room, by rw [putW_length]; exact h.len⟩
theorem U64_putW {w p : List Int} (hw : U64 w) (hp : U64 p) (page : Int) : U64 (putW w page p) := by
  unfold putW putFrom
  refine U64_tab fun j _ _ => ?_
  split
  · exact hp.G _
  · exact hw.G _

theorem putFrom_step {w : List Int} {page : Int} (h : Fit w page) (p : List Int) {i : Int} (h0 : 0 ≤ i) (h1 : i < 128) : putFrom (wr w (pl page i) (G p i)) page p (i + 1) = putFrom w page p i := by
  obtain ⟨a, b, _⟩ := h.at h0 h1
  unfold putFrom
  rw [wr_length]
  refine ext_G (by simp [tab_length]) fun j hj hj2 => ?_
  rw [tab_length] at hj2
  rw [G_tab hj hj2, G_tab hj hj2, G_wr (by omega) b _ hj]
  by_cases e : j = pl page i
  · subst e
    rw [if_neg (by unfold pl; omega), if_pos rfl, if_pos (by unfold pl; omega)]
    congr 1; unfold pl; omega
  · rw [if_neg e]
    by_cases e2 : pl page i ≤ j ∧ j < pl page 128
    · rw [if_pos e2, if_pos (by unfold pl at *; omega)]
    · rw [if_neg e2, if_neg (by unfold pl at *; omega)]
theorem putFrom_end {w : List Int} {page : Int} (p : List Int) : putFrom w page p 128 = w := by
  refine ext_G (tab_length _ _) fun j hj hj2 => ?_
  rw [putFrom, tab_length] at hj2
  rw [putFrom, G_tab hj hj2, if_neg (by omega)]

theorem arput_l0 {page : Int} (p : List Int) : ∀ (m n N : Nat) (i : Int) (w : List Int), Fit w page → i + m = 128 → 0 ≤ i → m < n → m_arena_Arena_put_l0 N n page i p w = some (AR (putFrom w page p i)) := by
  intro m
  induction m with
  | zero =>
    intro n N i w hw hm hi hn
    obtain ⟨n, rfl⟩ : ∃ k, n = k + 1 := ⟨n - 1, by omega⟩
    have e : i = 128 := by omega
    subst e
    simp only [m_arena_Arena_put_l0, m_arena_Arena_put_l0_b]
    simp [putFrom_end]
  | succ m ih =>
    intro n N i w hw hm hi hn
    obtain ⟨n, rfl⟩ : ∃ k, n = k + 1 := ⟨n - 1, by omega⟩
    obtain ⟨a, b, c⟩ := hw.at hi (show i < 128 by omega)
    simp only [m_arena_Arena_put_l0, m_arena_Arena_put_l0_b]
    simp only [show i < 128 by omega, decide_true, if_true, c, Option.bind_some, hi, mem_Store (show 0 ≤ pl page i by omega) b, rd_G]
    rw [wI (x := i + 1) (by omega) (by omega), ih n N (i + 1) _ (hw.wr _ _) (by omega) (by omega) (by omega), putFrom_step hw p hi (by omega)]
theorem arena_put {w : List Int} {page : Int} (h : Fit w page) (p : List Int) : m_arena_Arena_put (AR w) page p = some (AR (putW w page p)) := by
  unfold m_arena_Arena_put m_arena_Arena_put_a
  exact arput_l0 p 120 FUEL FUEL 8 w h (by omega) (by omega) (by have := FUEL_big; omega)

/-- the kind of a page -/
def K (w : List Int) (p : Int) : Int := G w (pl p 8)
structure Sz (w : List Int) (n : Int) : Prop where
  lo : 1 ≤ n
  hi : n ≤ 511
  pages : G w 0 = n
  room : pl n 128 ≤ w.length
  len : w.length ≤ 65536
  u : U64 w
theorem Sz.fit {w : List Int} {n : Int} (h : Sz w n) {p : Int} (h0 : 1 ≤ p) (h1 : p ≤ n) : Fit w p := ⟨h0, by have := h.hi; omega, by have := h.room; unfold pl at *; omega, h.len⟩
theorem Sz.big {w : List Int} {n : Int} (h : Sz w n) : 144 ≤ w.length := by have := h.room; have := h.lo; unfold pl at *; omega
theorem arena_pages {w : List Int} {n : Int} (h : Sz w n) : m_arena_Arena_pages (AR w) = some (n, AR w) := by
  have := h.big; have := h.hi; have := h.lo
  unfold m_arena_Arena_pages
  simp only [AR, mem_Load (w := w) (i := 0) (by omega) (by omega), Option.bind_some, h.pages]
  rw [wI (by omega) (by omega)]
theorem arena_kind {w : List Int} {p : Int} (h : Fit w p) : m_arena_Arena_kind (AR w) p = some (K w p, AR w) := by
  obtain ⟨a, b, c⟩ := h.at (i := 8) (by omega) (by omega)
  unfold m_arena_Arena_kind
  simp only [c, Option.bind_some, AR, mem_Load (w := w) (i := pl p 8) (by omega) b, K]
def usedK (k : Int) : Bool := decide (1 ≤ k) && decide (k ≤ 6)
theorem arena_used {w : List Int} {p : Int} (h : Fit w p) : m_arena_Arena_used (AR w) p = some (usedK (K w p), AR w) := by
  unfold m_arena_Arena_used usedK
  simp only [arena_kind h, Option.bind_some]
  by_cases e : K w p ≥ 1
  · simp [e, show 1 ≤ K w p from e]
  · simp [e, show ¬ 1 ≤ K w p from e]
theorem arena_Root {w : List Int} (h : 4 ≤ w.length) : m_arena_Arena_Root (AR w) = some (IntKind.i64.wrap (G w 3), AR w) := by
  unfold m_arena_Arena_Root
  simp only [AR, mem_Load (w := w) (i := 3) (by omega) (by omega), Option.bind_some]
theorem arena_Mem {w : List Int} (h0 : 0 < w.length) (h1 : w.length ≤ 1000000) : m_arena_Arena_Mem (AR w) = some (some (w, ()), AR w) := by
  unfold m_arena_Arena_Mem
  simp only [AR, mem_Copy h0 h1, Option.bind_some]
end Go.Ev.L
