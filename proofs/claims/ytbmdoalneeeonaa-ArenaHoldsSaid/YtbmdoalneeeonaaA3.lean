/- Arenas: how many pages are free, used and deferred, the pages' words, and that an arena is like the reference's with the same words. -/
import Derived.Test.YtbmdoalneeeonaaA2
import Derived.Test.YtbmdoalneeeonaaM20
set_option linter.unusedVariables false
set_option linter.unusedSimpArgs false
namespace Go.Ev.L
open Go Go.Ev Go.Ev.M

def cnt (f : Int → Bool) (w : List Int) : Nat → Int
  | 0 => 0
  | k + 1 => cnt f w k + (if f (K w ((k : Int) + 1)) = true then 1 else 0)
def freeK (k : Int) : Bool := k == 0
def defK (k : Int) : Bool := k == 255
theorem cnt_range (f : Int → Bool) (w : List Int) : ∀ k : Nat, 0 ≤ cnt f w k ∧ cnt f w k ≤ k := by
  intro k
  induction k with
  | zero => simp [cnt]
  | succ k ih => simp only [cnt]; split <;> omega
theorem counts_l0 {w : List Int} {n : Int} (hs : Sz w n) : ∀ (m fuel N k : Nat), (k : Int) + m = n → m < fuel →
    m_arena_Arena_Counts_l0 N fuel (cnt freeK w k) (cnt usedK w k) (cnt defK w k) ((k : Int) + 1) w = some (n, cnt freeK w n.toNat, cnt usedK w n.toNat, cnt defK w n.toNat, AR w) := by
  have hh := hs.hi
  intro m
  induction m with
  | zero =>
    intro fuel N k hk hf
    obtain ⟨fuel, rfl⟩ : ∃ i, fuel = i + 1 := ⟨fuel - 1, by omega⟩
    have e : n.toNat = k := by omega
    simp only [m_arena_Arena_Counts_l0, m_arena_Arena_Counts_l0_b, arena_pages hs, Option.bind_some, show ¬ (k : Int) + 1 ≤ n by omega, decide_false, Bool.false_eq_true, if_false, e]
  | succ m ih =>
    intro fuel N k hk hf
    obtain ⟨fuel, rfl⟩ : ∃ i, fuel = i + 1 := ⟨fuel - 1, by omega⟩
    have hfit := hs.fit (p := (k : Int) + 1) (by omega) (by omega)
    have r1 := cnt_range freeK w k
    have r2 := cnt_range usedK w k
    have r3 := cnt_range defK w k
    have next := ih fuel N (k + 1) (by omega) (by omega)
    simp only [cnt] at next
    simp only [m_arena_Arena_Counts_l0, m_arena_Arena_Counts_l0_b, arena_pages hs, Option.bind_some, show (k : Int) + 1 ≤ n by omega, decide_true, if_true, arena_kind hfit, arena_used hfit]
    rw [wI (x := cnt freeK w k + 1) (by omega) (by omega), wI (x := cnt usedK w k + 1) (by omega) (by omega), wI (x := cnt defK w k + 1) (by omega) (by omega), wI (x := (k : Int) + 1 + 1) (by omega) (by omega)]
    have e0 : ((k + 1 : Nat) : Int) = (k : Int) + 1 := by omega
    rw [e0] at next
    by_cases c0 : K w ((k : Int) + 1) = 0
    · rw [if_pos (by simpa using c0)]
      have u0 : usedK (K w ((k : Int) + 1)) = false := by rw [c0]; rfl
      have d0 : defK (K w ((k : Int) + 1)) = false := by rw [c0]; rfl
      have f0 : freeK (K w ((k : Int) + 1)) = true := by rw [c0]; rfl
      rw [u0, d0, f0] at next
      simpa using next
    · rw [if_neg (by simpa using c0)]
      have f0 : freeK (K w ((k : Int) + 1)) = false := by unfold freeK; simpa using c0
      by_cases c1 : K w ((k : Int) + 1) = 255
      · rw [if_pos (by simpa using c1)]
        have u0 : usedK (K w ((k : Int) + 1)) = false := by rw [c1]; rfl
        have d0 : defK (K w ((k : Int) + 1)) = true := by rw [c1]; rfl
        rw [u0, d0, f0] at next
        simpa using next
      · rw [if_neg (by simpa using c1)]
        have d0 : defK (K w ((k : Int) + 1)) = false := by unfold defK; simpa using c1
        rw [d0, f0] at next
        cases u0 : usedK (K w ((k : Int) + 1)) with
        | true => rw [u0] at next; simpa using next
        | false => rw [u0] at next; simpa using next
theorem arena_Counts {w : List Int} {n : Int} (hs : Sz w n) : m_arena_Arena_Counts (AR w) = some (n, cnt freeK w n.toNat, cnt usedK w n.toNat, cnt defK w n.toNat, AR w) := by
  have hh := hs.hi; have hl := hs.lo
  unfold m_arena_Arena_Counts m_arena_Arena_Counts_a
  have := counts_l0 hs n.toNat FUEL FUEL 0 (by omega) (by have := FUEL_big; omega)
  simpa [cnt] using this
theorem law20_counts {w : List Int} {n : Int} (hs : Sz w n) (a b c d : Int) : m_ticketlinelaw20_counts (AR w) a b c d = some (n == a && (cnt freeK w n.toNat == b && (cnt usedK w n.toNat == c && cnt defK w n.toNat == d)), AR w) := by
  unfold m_ticketlinelaw20_counts
  rw [arena_Counts hs]
  simp only [Option.bind_some]
  cases n == a <;> cases cnt freeK w n.toNat == b <;> cases cnt usedK w n.toNat == c <;> simp

theorem ref_at {p i : Int} (h0 : -10000 ≤ p) (h1 : p ≤ 10000) (h2 : -10000 ≤ i) (h3 : i ≤ 10000) : m_ticketlineref20_at p i = some (pl p i) := by
  unfold m_ticketlineref20_at pl
  rw [wI (x := p - 1) (by omega) (by omega), wI (x := 128 * (p - 1)) (by omega) (by omega), wI (x := 16 + 128 * (p - 1)) (by omega) (by omega), wI (by omega) (by omega)]
theorem ref_Pages {w : List Int} {n : Int} (hs : Sz w n) : m_ticketlineref20_Arena_Pages (w, ()) = some (n, (w, ())) := by
  have hb := hs.big; have hh := hs.hi; have hl := hs.lo
  unfold m_ticketlineref20_Arena_Pages
  simp only [show (0 : Int) < w.length by omega, if_true, rd_G, hs.pages]
  rw [wI (by omega) (by omega)]
def pageW (w : List Int) (p : Int) : List Int := tab 128 fun i => G w (pl p i)
def rdFrom (w : List Int) (p : Int) (acc : List Int) (i : Int) : List Int := tab 128 fun j => if i ≤ j then G w (pl p j) else G acc j
theorem rdFrom_step (w : List Int) (p : Int) {acc : List Int} (ha : acc.length = 128) {i : Int} (h0 : 0 ≤ i) (h1 : i < 128) : rdFrom w p (acc.set i.toNat (G w (pl p i))) (i + 1) = rdFrom w p acc i := by
  refine ext_G (by simp [rdFrom, tab_length]) fun j hj hj2 => ?_
  rw [rdFrom, tab_length] at hj2
  rw [rdFrom, rdFrom, G_tab hj hj2, G_tab hj hj2]
  have hs : G (acc.set i.toNat (G w (pl p i))) j = if j = i then G w (pl p i) else G acc j := by
    have := G_set (p := acc) (i := i.toNat) (x := G w (pl p i)) (by omega) j hj
    rw [show ((i.toNat : Nat) : Int) = i by omega] at this
    exact this
  rw [hs]
  by_cases e : j = i
  · subst e; rw [if_neg (by omega), if_pos rfl, if_pos (by omega)]
  · by_cases e2 : i ≤ j
    · rw [if_pos (by omega), if_pos e2]
    · rw [if_neg (by omega), if_neg e, if_neg e2]
theorem rdFrom_end (w : List Int) (p : Int) {acc : List Int} (ha : acc.length = 128) : rdFrom w p acc 128 = acc := by
  refine ext_G (by simp [rdFrom, tab_length, ha]) fun j hj hj2 => ?_
  rw [rdFrom, tab_length] at hj2
  rw [rdFrom, G_tab hj hj2, if_neg (by omega)]
theorem rdFrom_zero (w : List Int) (p : Int) (acc : List Int) : rdFrom w p acc 0 = pageW w p := by
  refine ext_G (by simp [rdFrom, pageW, tab_length]) fun j hj hj2 => ?_
  rw [rdFrom, tab_length] at hj2
  rw [rdFrom, pageW, G_tab hj hj2, G_tab hj hj2, if_pos hj]
theorem read_l0 {w : List Int} {p : Int} (h : Fit w p) (z : List Int) : ∀ (m fuel N : Nat) (i : Int) (acc : List Int), i + m = 128 → 0 ≤ i → m < fuel → acc.length = 128 →
    m_arena_Arena_Read_l0 N fuel p i z acc w = some (rdFrom w p acc i, (0 : Int), AR w) := by
  intro m
  induction m with
  | zero =>
    intro fuel N i acc hm hi hf ha
    obtain ⟨fuel, rfl⟩ : ∃ k, fuel = k + 1 := ⟨fuel - 1, by omega⟩
    have e : i = 128 := by omega
    subst e
    rw [rdFrom_end w p ha]
    simp [m_arena_Arena_Read_l0, m_arena_Arena_Read_l0_b]
  | succ m ih =>
    intro fuel N i acc hm hi hf ha
    obtain ⟨fuel, rfl⟩ : ∃ k, fuel = k + 1 := ⟨fuel - 1, by omega⟩
    obtain ⟨x1, x2, x3⟩ := h.at hi (show i < 128 by omega)
    simp only [m_arena_Arena_Read_l0, m_arena_Arena_Read_l0_b, show i < 128 by omega, decide_true, if_true, x3, Option.bind_some, mem_Load (w := w) (i := pl p i) (by omega) x2, hi]
    rw [wI (x := i + 1) (by omega) (by omega), ih fuel N (i + 1) _ (by omega) (by omega) (by omega) (by rw [List.length_set]; exact ha), rdFrom_step w p ha hi (by omega)]
theorem arena_Read {w : List Int} {n : Int} (hs : Sz w n) (p : Int) : m_arena_Arena_Read (AR w) p = some (if p < 1 ∨ n < p then (List.replicate 128 0, (3 : Int), AR w) else (pageW w p, (0 : Int), AR w)) := by
  unfold m_arena_Arena_Read m_arena_Arena_Read_a
  by_cases e1 : p < 1
  · simp [e1]
  by_cases e2 : n < p
  · simp [e1, e2, arena_pages hs]
  simp only [e1, decide_false, Bool.false_eq_true, if_false, arena_pages hs, Option.bind_some, show ¬ p > n from e2, false_or]
  rw [read_l0 (hs.fit (by omega) (by omega)) _ 128 FUEL FUEL 0 _ (by omega) (by omega) (by have := FUEL_big; omega) List.length_replicate, rdFrom_zero]
theorem known20 : m_ticketlinelaw20_known = some true := rfl
end Go.Ev.L
