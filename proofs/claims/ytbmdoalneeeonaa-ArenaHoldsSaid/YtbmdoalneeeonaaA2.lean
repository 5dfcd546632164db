/- Arenas: what formatting a memory gives, which errors there are, allocation and the root. -/
import Derived.Test.YtbmdoalneeeonaaA1
set_option linter.unusedVariables false
set_option linter.unusedSimpArgs false
namespace Go.Ev.L
open Go Go.Ev Go.Ev.M

def zeroTo (w : List Int) (i lim : Int) : List Int := tab w.length fun j => if i ≤ j ∧ j < lim then 0 else G w j
theorem zeroTo_step {w : List Int} {i lim : Int} (h0 : 0 ≤ i) (h1 : i < lim) (h2 : lim ≤ w.length) : zeroTo (wr w i 0) (i + 1) lim = zeroTo w i lim := by
  unfold zeroTo
  rw [wr_length]
  refine ext_G (by simp [tab_length]) fun j hj hj2 => ?_
  rw [tab_length] at hj2
  rw [G_tab hj hj2, G_tab hj hj2, G_wr h0 (by omega) _ hj]
  by_cases e : j = i
  · subst e; rw [if_neg (by omega), if_pos rfl, if_pos (by omega)]
  · rw [if_neg e]
    by_cases e2 : i ≤ j ∧ j < lim
    · rw [if_pos e2, if_pos (by omega)]
    · rw [if_neg e2, if_neg (by omega)]
theorem zeroTo_end (w : List Int) (lim : Int) : zeroTo w lim lim = w := by
  refine ext_G (tab_length _ _) fun j hj hj2 => ?_
  rw [zeroTo, tab_length] at hj2
  rw [zeroTo, G_tab hj hj2, if_neg (by omega)]
/-- each page from p on leads to the next one -/
def links (w : List Int) (p : Int) : Nat → List Int
  | 0 => w
  | k + 1 => links (wr w (pl p 10) (p + 1)) (p + 1) k
theorem links_length : ∀ (k : Nat) (w : List Int) (p : Int), (links w p k).length = w.length := by
  intro k
  induction k with
  | zero => intro w p; rfl
  | succ k ih => intro w p; rw [links, ih, wr_length]
theorem links_u : ∀ (k : Nat) (w : List Int) (p : Int), U64 w → 0 ≤ p → p + k < 1000000 → U64 (links w p k) := by
  intro k
  induction k with
  | zero => intro w p h _ _; exact h
  | succ k ih => intro w p h h0 h1; exact ih _ _ (U64_wr h _ (by omega) (by omega)) (by omega) (by omega)
theorem G_links : ∀ (k : Nat) (w : List Int) (p : Int), 1 ≤ p → pl (p + k) 0 ≤ w.length → ∀ j : Int, 0 ≤ j →
    G (links w p k) j = if p ≤ (j - 26) / 128 + 1 ∧ (j - 26) / 128 + 1 < p + k ∧ (j - 26) % 128 = 0 then (j - 26) / 128 + 2 else G w j := by
  intro k
  induction k with
  | zero => intro w p h0 h1 j hj; rw [links, if_neg (by omega)]
  | succ k ih =>
    intro w p h0 h1 j hj
    rw [links, ih _ _ (by omega) (by rw [wr_length]; unfold pl at *; omega) j hj]
    have hp : 0 ≤ pl p 10 ∧ pl p 10 < w.length := by unfold pl at *; omega
    rw [G_wr hp.1 hp.2 _ hj]
    by_cases e : j = pl p 10
    · rw [if_neg (by unfold pl at *; omega), if_pos e, if_pos (by unfold pl at *; omega)]; unfold pl at *; omega
    · rw [if_neg e]
      by_cases e2 : p + 1 ≤ (j - 26) / 128 + 1 ∧ (j - 26) / 128 + 1 < p + 1 + k ∧ (j - 26) % 128 = 0
      · rw [if_pos e2, if_pos (by omega)]
      · rw [if_neg e2, if_neg (by unfold pl at *; omega)]
/-- a memory that was formatted for n pages -/
def fmtW (w : List Int) (n : Int) : List Int := links (wr (wr (wr (zeroTo w 0 (16 + 128 * n)) 0 n) 1 1) 4 1) 1 (n - 1).toNat
theorem fmtW_length (w : List Int) (n : Int) : (fmtW w n).length = w.length := by unfold fmtW zeroTo; rw [links_length, wr_length, wr_length, wr_length, tab_length]
theorem G_fmtW {w : List Int} {n : Int} (h0 : 1 ≤ n) (h2 : 16 + 128 * n ≤ w.length) {j : Int} (hj : 0 ≤ j) : G (fmtW w n) j =
    if 1 ≤ (j - 26) / 128 + 1 ∧ (j - 26) / 128 + 1 < n ∧ (j - 26) % 128 = 0 then (j - 26) / 128 + 2 else if j = 4 then 1 else if j = 1 then 1 else if j = 0 then n else if j < 16 + 128 * n then 0 else G w j := by
  unfold fmtW
  rw [G_links _ _ _ (by omega) (by simp only [wr_length, zeroTo, tab_length]; unfold pl; omega) _ hj]
  have e1 : (1 : Int) + ((n - 1).toNat : Nat) = n := by omega
  rw [e1]
  split
  · rfl
  · have l0 : (zeroTo w 0 (16 + 128 * n)).length = w.length := tab_length _ _
    rw [G_wr (by omega) (by simp only [wr_length, l0]; omega) _ hj, G_wr (by omega) (by simp only [wr_length, l0]; omega) _ hj, G_wr (by omega) (by simp only [l0]; omega) _ hj]
    split
    · rfl
    split
    · rfl
    split
    · rfl
    by_cases hl : j < w.length
    · rw [zeroTo, G_tab hj hl]
      by_cases e : j < 16 + 128 * n
      · rw [if_pos ⟨hj, e⟩, if_pos e]
      · rw [if_neg (by omega), if_neg e]
    · rw [if_neg (by omega)]
      have g0 : ∀ l : List Int, (l.length : Int) ≤ j → G l j = 0 := fun l h => by
        unfold G; rw [List.getD_eq_getElem?_getD, List.getElem?_eq_none (by omega)]; rfl
      rw [g0 _ (by rw [l0]; omega), g0 _ (by omega)]
theorem fmtW_sz {w : List Int} {n : Int} (h0 : 1 ≤ n) (h1 : n ≤ 511) (h2 : 16 + 128 * n ≤ w.length) (h3 : w.length ≤ 65536) (hu : U64 w) : Sz (fmtW w n) n := by
  refine ⟨h0, h1, ?_, ?_, by rw [fmtW_length]; exact h3, ?_⟩
  · rw [G_fmtW h0 h2 (by omega), if_neg (by omega)]; simp
  · rw [fmtW_length]; unfold pl; omega
  · unfold fmtW
    refine links_u _ _ _ (U64_wr (U64_wr (U64_wr ?_ _ (by omega) (by omega)) _ (by omega) (by omega)) _ (by omega) (by omega)) (by omega) (by omega)
    unfold zeroTo
    refine U64_tab fun j _ _ => ?_
    split
    · omega
    · exact hu.G _

theorem fmt_l1 (n : Int) (m0 : List Int) (h1 : n ≤ 511) : ∀ (k fuel N : Nat) (p : Int) (w : List Int), 1 ≤ p → p + k = n → pl n 128 ≤ w.length → k < fuel →
    m_arena_Format_l1 N fuel n p m0 w = some (some (AR (links w p k)), (0 : Int), (m0, ())) := by
  intro k
  induction k with
  | zero =>
    intro fuel N p w h0 hp hr hf
    obtain ⟨fuel, rfl⟩ : ∃ m, fuel = m + 1 := ⟨fuel - 1, by omega⟩
    simp only [m_arena_Format_l1, m_arena_Format_l1_b, show ¬ p < n by omega, decide_false, Bool.false_eq_true, if_false, links]
  | succ k ih =>
    intro fuel N p w h0 hp hr hf
    obtain ⟨fuel, rfl⟩ : ∃ m, fuel = m + 1 := ⟨fuel - 1, by omega⟩
    have hw : 0 ≤ pl p 10 ∧ pl p 10 < w.length := by unfold pl at *; omega
    simp only [m_arena_Format_l1, m_arena_Format_l1_b, show p < n by omega, decide_true, if_true, place_eq (p := p) (i := 10) (by omega) (by omega) (by omega) (by omega), Option.bind_some, mem_Store hw.1 hw.2]
    rw [wI (x := p + 1) (by omega) (by omega), wU (x := p + 1) (by omega) (by omega), ih fuel N (p + 1) _ (by omega) (by omega) (by rw [wr_length]; exact hr) (by omega)]
    rfl
theorem fmt_l0 (n : Int) (m0 : List Int) (h0 : 1 ≤ n) (h1 : n ≤ 511) : ∀ (m fuel N : Nat) (i : Int) (w : List Int), i + m = 16 + 128 * n → 0 ≤ i → 16 + 128 * n ≤ w.length → m < fuel → 1000 < N →
    m_arena_Format_l0 N fuel n (16 + 128 * n) i m0 w = some (some (AR (links (wr (wr (wr (zeroTo w i (16 + 128 * n)) 0 n) 1 1) 4 1) 1 (n - 1).toNat)), (0 : Int), (m0, ())) := by
  intro m
  induction m with
  | zero =>
    intro fuel N i w hm hi hr hf hN
    obtain ⟨fuel, rfl⟩ : ∃ m, fuel = m + 1 := ⟨fuel - 1, by omega⟩
    have e : i = 16 + 128 * n := by omega
    subst e
    rw [zeroTo_end]
    simp only [m_arena_Format_l0, m_arena_Format_l0_b, Int.lt_irrefl, decide_false, Bool.false_eq_true, if_false]
    rw [wU (x := n) (by omega) (by omega)]
    simp only [mem_Store (w := w) (i := 0) (by omega) (by omega), mem_Store (w := wr w 0 n) (i := 1) (by omega) (by rw [wr_length]; omega), mem_Store (w := wr (wr w 0 n) 1 1) (i := 4) (by omega) (by simp only [wr_length]; omega), Option.bind_some]
    exact fmt_l1 n m0 h1 _ N N 1 _ (by omega) (by omega) (by simp only [wr_length]; unfold pl; omega) (by omega)
  | succ m ih =>
    intro fuel N i w hm hi hr hf hN
    obtain ⟨fuel, rfl⟩ : ∃ m, fuel = m + 1 := ⟨fuel - 1, by omega⟩
    simp only [m_arena_Format_l0, m_arena_Format_l0_b, show i < 16 + 128 * n by omega, decide_true, if_true, mem_Store (w := w) (i := i) hi (by omega), Option.bind_some]
    rw [wI (x := i + 1) (by omega) (by omega), ih fuel N (i + 1) _ (by omega) (by omega) (by rw [wr_length]; exact hr) (by omega) hN, zeroTo_step hi (by omega) hr]
/-- formatting: an arena, or the error -/
theorem arena_Format {w : List Int} (h0 : 0 < w.length) (h1 : w.length ≤ 65536) (n : Int) : m_arena_Format (w, ()) n = some (if n < 1 ∨ 511 < n ∨ (w.length : Int) < 16 + 128 * n then (none, (2 : Int), (w, ())) else (some (AR (fmtW w n)), (0 : Int), (w, ()))) := by
  have hz : ¬ ((w.length : Int) == 0) = true := by simp; intro e; subst e; simp at h0
  unfold m_arena_Format m_arena_Format_a
  dsimp only
  rw [if_neg hz, if_neg hz]
  by_cases e1 : n < 1
  · rw [if_pos (by simpa using e1), if_pos (.inl e1)]
  by_cases e2 : 511 < n
  · rw [if_neg (by simpa using e1), if_pos (by simpa using e2), if_pos (.inr (.inl e2))]
  rw [if_neg (by simpa using e1), if_neg (by simpa using e2), wI (x := n + 1) (by omega) (by omega), place_eq (by omega) (by omega) (by omega) (by omega)]
  have e3 : pl (n + 1) 0 = 16 + 128 * n := by unfold pl; omega
  simp only [Option.bind_some, e3]
  rw [if_neg hz]
  by_cases e4 : (w.length : Int) < 16 + 128 * n
  · rw [if_pos (by simpa using e4), if_pos (.inr (.inr e4))]
  rw [if_neg (by simpa using e4), if_neg (by omega), mem_Copy h0 (by omega)]
  simp only [Option.bind_some]
  exact fmt_l0 n w (by omega) (by omega) (16 + 128 * n).toNat FUEL FUEL 0 w (by omega) (by omega) (by omega) (by have := FUEL_big; omega) (by have := FUEL_big; omega)

def busyE (w : List Int) (n page : Int) (root : Bool) : Int :=
  if page < 1 ∨ n < page then 3 else if usedK (K w page) = false then 8 else if root = true ∧ G w 3 = page then 11 else 0
theorem root_eq {x page n : Int} (h0 : 0 ≤ x) (h1 : x < 18446744073709551616) (h2 : 1 ≤ page) (h3 : page ≤ 511) : IntKind.i64.wrap x = page ↔ x = page := by
  rw [wImod]; constructor <;> intro h <;> omega
theorem arena_busy {w : List Int} {n : Int} (h : Sz w n) (page : Int) (root : Bool) : m_arena_Arena_busy (AR w) page root = some (busyE w n page root, AR w) := by
  have hb := h.big; have hh := h.hi
  unfold m_arena_Arena_busy busyE
  by_cases e1 : page < 1
  · rw [if_pos (by simpa using e1), if_pos (.inl e1)]
  simp only [arena_pages h, Option.bind_some]
  by_cases e2 : n < page
  · rw [if_neg (by simpa using e1), if_pos (by simpa using e2), if_pos (.inr e2)]
  rw [if_neg (by simpa using e1), if_neg (by simpa using e2), if_neg (by omega)]
  simp only [arena_used (h.fit (p := page) (by omega) (by omega)), Option.bind_some, arena_Root (w := w) (by omega)]
  cases hu : usedK (K w page) with
  | false => simp
  | true =>
    cases root with
    | false => simp
    | true =>
      have hr := h.u.G 3
      have := root_eq (n := n) hr.1 hr.2 (show 1 ≤ page by omega) (show page ≤ 511 by omega)
      by_cases e3 : G w 3 = page
      · have := this.2 e3; rw [e3] at this; simp [e3, this]
      · simp [e3, this]
/-- a page is allocated -/
def allocW (w : List Int) (p : List Int) : List Int := putW (wr w 1 (G w (pl (G w 1) 10))) (G w 1) p
theorem arena_Alloc {w p : List Int} {n : Int} (h : Sz w n) (hp : PageOK p) (hf : G w 1 ≤ n) : m_arena_Arena_Alloc (AR w) p =
    some (if validB p = false then ((0 : Int), (12 : Int), AR w) else if G w 1 = 0 then ((0 : Int), (7 : Int), AR w) else (G w 1, (0 : Int), AR (allocW w p))) := by
  have hb := h.big; have hh := h.hi; have hg := h.u.G 1
  unfold m_arena_Arena_Alloc
  rw [slot_Valid hp]
  simp only [Option.bind_some]
  cases hv : validB p with
  | false => simp
  | true =>
    simp only [Bool.not_true, Bool.false_eq_true, if_false, mem_Load (w := w) (i := 1) (by omega) (by omega), Option.bind_some, reduceCtorEq]
    rw [wI (x := G w 1) (by omega) (by omega)]
    by_cases e : G w 1 = 0
    · simp [e]
    have hfit := h.fit (p := G w 1) (by omega) hf
    obtain ⟨a, b, c⟩ := hfit.at (i := 10) (by omega) (by omega)
    rw [if_neg (by simpa using e), if_neg e]
    simp only [c, Option.bind_some, mem_Load (w := w) (i := pl (G w 1) 10) (by omega) b, mem_Store (w := w) (i := 1) (by omega) (by omega), arena_put (hfit.wr 1 _), allocW]
theorem Sz.wr {w : List Int} {n : Int} (h : Sz w n) {i v : Int} (hi : 1 ≤ i) (h1 : i < w.length) (h0 : 0 ≤ v) (hv : v < 18446744073709551616) : Sz (wr w i v) n :=
  ⟨h.lo, h.hi, by rw [G_wr_ne (by omega) h1 _ (by omega) (by omega)]; exact h.pages, by rw [wr_length]; exact h.room, by rw [wr_length]; exact h.len, U64_wr h.u _ h0 hv⟩
theorem Sz.put {w : List Int} {n page : Int} (h : Sz w n) (h0 : 1 ≤ page) {p : List Int} (hp : U64 p) : Sz (putW w page p) n :=
  ⟨h.lo, h.hi, by rw [G_putW (by omega) (by have := h.big; omega), if_neg (by unfold pl; omega)]; exact h.pages, by rw [putW_length]; exact h.room, by rw [putW_length]; exact h.len, U64_putW h.u hp _⟩
theorem Sz.alloc {w p : List Int} {n : Int} (h : Sz w n) (hp : U64 p) (h0 : 1 ≤ G w 1) : Sz (allocW w p) n := by
  have hb := h.big
  have hl := h.u.G (pl (G w 1) 10)
  exact (h.wr (i := 1) (by omega) (by omega) hl.1 hl.2).put h0 hp
end Go.Ev.L
