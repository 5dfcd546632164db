/- Arenas: how many pages are free, used and deferred, the pages' words, and that an arena is like the reference's with the same words. -/
import Derived.Test.YtbmdoalneeeonaaA2
import Derived.Test.YtbmdoalneeeonaaM20
set_option linter.unusedVariables false
set_option linter.unusedSimpArgs false
namespace Go.Ev.L
open Go Go.Ev Go.Ev.M

def cnt (f : Int → Bool) (w : List Int) : Nat → Int
  | 0 => 0
  | k + 1 => cnt f w k + (if f (K w ((k : Int) + 1)) = true then 1 else 0)
def freeK (k : Int) : Bool := k == 0
def defK (k : Int) : Bool := k == 255
theorem cnt_range (f : Int → Bool) (w : List Int) : ∀ k : Nat, 0 ≤ cnt f w k ∧ cnt f w k ≤ k := by
  intro k
  induction k with
  | zero => simp [cnt]
  | succ k ih => simp only [cnt]; split <;> omega
theorem cnt_congr {f g : Int → Bool} {w v : List Int} : ∀ {k : Nat}, (∀ p : Int, 1 ≤ p → p ≤ k → f (K w p) = g (K v p)) → cnt f w k = cnt g v k := by
  intro k
  induction k with
  | zero => intro _; rfl
  | succ k ih =>
    intro h
    simp only [cnt]
    rw [ih (fun p h0 h1 => h p h0 (by omega)), h ((k : Int) + 1) (by omega) (by omega)]

theorem counts_l0 {w : List Int} {n : Int} (hs : Sz w n) : ∀ (m fuel N k : Nat), (k : Int) + m = n → m < fuel →
    m_arena_Arena_Counts_l0 N fuel (cnt freeK w k) (cnt usedK w k) (cnt defK w k) ((k : Int) + 1) w = some (n, cnt freeK w n.toNat, cnt usedK w n.toNat, cnt defK w n.toNat, AR w) := by
  have hh := hs.hi
  intro m
  induction m with
  | zero =>
    intro fuel N k hk hf
    obtain ⟨fuel, rfl⟩ : ∃ i, fuel = i + 1 := ⟨fuel - 1, by omega⟩
    have e : n.toNat = k := by omega
    simp only [m_arena_Arena_Counts_l0, m_arena_Arena_Counts_l0_b, arena_pages hs, Option.bind_some, show ¬ (k : Int) + 1 ≤ n by omega, decide_false, Bool.false_eq_true, if_false, e]
  | succ m ih =>
    intro fuel N k hk hf
    obtain ⟨fuel, rfl⟩ : ∃ i, fuel = i + 1 := ⟨fuel - 1, by omega⟩
    have hfit := hs.fit (p := (k : Int) + 1) (by omega) (by omega)
    have r1 := cnt_range freeK w k
    have r2 := cnt_range usedK w k
    have r3 := cnt_range defK w k
    have next := ih fuel N (k + 1) (by omega) (by omega)
    simp only [cnt] at next
    simp only [m_arena_Arena_Counts_l0, m_arena_Arena_Counts_l0_b, arena_pages hs, Option.bind_some, show (k : Int) + 1 ≤ n by omega, decide_true, if_true, arena_kind hfit, arena_used hfit]
    rw [wI (x := cnt freeK w k + 1) (by omega) (by omega), wI (x := cnt usedK w k + 1) (by omega) (by omega), wI (x := cnt defK w k + 1) (by omega) (by omega), wI (x := (k : Int) + 1 + 1) (by omega) (by omega)]
    have e0 : ((k + 1 : Nat) : Int) = (k : Int) + 1 := by omega
    rw [e0] at next
    by_cases c0 : K w ((k : Int) + 1) = 0
    · rw [if_pos (by simpa using c0)]
      have u0 : usedK (K w ((k : Int) + 1)) = false := by rw [c0]; rfl
      have d0 : defK (K w ((k : Int) + 1)) = false := by rw [c0]; rfl
      have f0 : freeK (K w ((k : Int) + 1)) = true := by rw [c0]; rfl
      rw [u0, d0, f0] at next
      simpa using next
    · rw [if_neg (by simpa using c0)]
      have f0 : freeK (K w ((k : Int) + 1)) = false := by unfold freeK; simpa using c0
      by_cases c1 : K w ((k : Int) + 1) = 255
      · rw [if_pos (by simpa using c1)]
        have u0 : usedK (K w ((k : Int) + 1)) = false := by rw [c1]; rfl
        have d0 : defK (K w ((k : Int) + 1)) = true := by rw [c1]; rfl
        rw [u0, d0, f0] at next
        simpa using next
      · rw [if_neg (by simpa using c1)]
        have d0 : defK (K w ((k : Int) + 1)) = false := by unfold defK; simpa using c1
        rw [d0, f0] at next
        cases u0 : usedK (K w ((k : Int) + 1)) with
        | true => rw [u0] at next; simpa using next
        | false => rw [u0] at next; simpa using next
theorem arena_Counts {w : List Int} {n : Int} (hs : Sz w n) : m_arena_Arena_Counts (AR w) = some (n, cnt freeK w n.toNat, cnt usedK w n.toNat, cnt defK w n.toNat, AR w) := by
  have hh := hs.hi; have hl := hs.lo
  unfold m_arena_Arena_Counts m_arena_Arena_Counts_a
  have := counts_l0 hs n.toNat FUEL FUEL 0 (by omega) (by have := FUEL_big; omega)
  simpa [cnt] using this
theorem law20_counts {w : List Int} {n : Int} (hs : Sz w n) (a b c d : Int) : m_ticketlinelaw20_counts (AR w) a b c d = some (n == a && (cnt freeK w n.toNat == b && (cnt usedK w n.toNat == c && cnt defK w n.toNat == d)), AR w) := by
  unfold m_ticketlinelaw20_counts
  rw [arena_Counts hs]
  simp only [Option.bind_some]
  cases n == a <;> cases cnt freeK w n.toNat == b <;> cases cnt usedK w n.toNat == c <;> simp

theorem ref_at {p i : Int} (h0 : -10000 ≤ p) (h1 : p ≤ 10000) (h2 : -10000 ≤ i) (h3 : i ≤ 10000) : m_ticketlineref20_at p i = some (pl p i) := by
  unfold m_ticketlineref20_at pl
  rw [wI (x := p - 1) (by omega) (by omega), wI (x := 128 * (p - 1)) (by omega) (by omega), wI (x := 16 + 128 * (p - 1)) (by omega) (by omega), wI (by omega) (by omega)]
theorem ref_Pages {w : List Int} {n : Int} (hs : Sz w n) : m_ticketlineref20_Arena_Pages (w, ()) = some (n, (w, ())) := by
  have hb := hs.big; have hh := hs.hi; have hl := hs.lo
  unfold m_ticketlineref20_Arena_Pages
  simp only [show (0 : Int) < w.length by omega, if_true, rd_G, hs.pages]
  rw [wI (by omega) (by omega)]
def inK (a b k : Int) : Bool := decide (k ≥ a) && decide (k ≤ b)
theorem of_l0 {w : List Int} {n : Int} (hs : Sz w n) (a b : Int) : ∀ (m fuel N k : Nat), (k : Int) + m = n → m < fuel →
    m_ticketlineref20_Arena_Of_l0 N fuel a b (cnt (inK a b) w k) ((k : Int) + 1) w = some (cnt (inK a b) w n.toNat, (w, ())) := by
  have hh := hs.hi
  intro m
  induction m with
  | zero =>
    intro fuel N k hk hf
    obtain ⟨fuel, rfl⟩ : ∃ i, fuel = i + 1 := ⟨fuel - 1, by omega⟩
    have e : n.toNat = k := by omega
    simp only [m_ticketlineref20_Arena_Of_l0, m_ticketlineref20_Arena_Of_l0_b, ref_Pages hs, Option.bind_some, show ¬ (k : Int) + 1 ≤ n by omega, decide_false, Bool.false_eq_true, if_false, e]
  | succ m ih =>
    intro fuel N k hk hf
    obtain ⟨fuel, rfl⟩ : ∃ i, fuel = i + 1 := ⟨fuel - 1, by omega⟩
    obtain ⟨x1, x2, x3⟩ := (hs.fit (p := (k : Int) + 1) (by omega) (by omega)).at (i := 8) (by omega) (by omega)
    have r1 := cnt_range (inK a b) w k
    have next := ih fuel N (k + 1) (by omega) (by omega)
    simp only [cnt] at next
    have e0 : ((k + 1 : Nat) : Int) = (k : Int) + 1 := by omega
    rw [e0] at next
    have eK : G w (pl ((k : Int) + 1) 8) = K w ((k : Int) + 1) := rfl
    simp only [m_ticketlineref20_Arena_Of_l0, m_ticketlineref20_Arena_Of_l0_b, ref_Pages hs, Option.bind_some, show (k : Int) + 1 ≤ n by omega, decide_true, if_true, ref_at (p := (k : Int) + 1) (i := 8) (by omega) (by omega) (by omega) (by omega),
      show 0 ≤ pl ((k : Int) + 1) 8 by omega, x2, rd_G, eK]
    rw [wI (x := cnt (inK a b) w k + 1) (by omega) (by omega), wI (x := (k : Int) + 1 + 1) (by omega) (by omega)]
    unfold inK at next ⊢
    by_cases c0 : K w ((k : Int) + 1) ≥ a
    · by_cases c1 : K w ((k : Int) + 1) ≤ b
      · simp only [c0, c1, decide_true, if_true, Bool.and_true] at next ⊢; exact next
      · simp only [c0, c1, decide_true, decide_false, if_true, Bool.and_false, Bool.false_eq_true, if_false, Int.add_zero] at next ⊢; exact next
    · simp only [c0, decide_false, Bool.false_and, Bool.false_eq_true, if_false, Int.add_zero] at next ⊢; exact next
theorem ref_Of {w : List Int} {n : Int} (hs : Sz w n) (a b : Int) : m_ticketlineref20_Arena_Of (w, ()) a b = some (cnt (inK a b) w n.toNat, (w, ())) := by
  have hh := hs.hi; have hl := hs.lo
  unfold m_ticketlineref20_Arena_Of m_ticketlineref20_Arena_Of_a
  have := of_l0 hs a b n.toNat FUEL FUEL 0 (by omega) (by have := FUEL_big; omega)
  simpa [cnt] using this
theorem in00 (w : List Int) (n : Nat) : cnt (inK 0 0) w n = cnt freeK w n := cnt_congr fun p _ _ => by
  unfold inK freeK; rw [Bool.eq_iff_iff]; simp; omega
theorem in16 (w : List Int) (n : Nat) : cnt (inK 1 6) w n = cnt usedK w n := cnt_congr fun p _ _ => rfl
theorem in255 (w : List Int) (n : Nat) : cnt (inK 255 255) w n = cnt defK w n := cnt_congr fun p _ _ => by
  unfold inK defK; rw [Bool.eq_iff_iff]; simp; omega

def pageW (w : List Int) (p : Int) : List Int := tab 128 fun i => G w (pl p i)
def rdFrom (w : List Int) (p : Int) (acc : List Int) (i : Int) : List Int := tab 128 fun j => if i ≤ j then G w (pl p j) else G acc j
theorem rdFrom_step (w : List Int) (p : Int) {acc : List Int} (ha : acc.length = 128) {i : Int} (h0 : 0 ≤ i) (h1 : i < 128) : rdFrom w p (acc.set i.toNat (G w (pl p i))) (i + 1) = rdFrom w p acc i := by
  refine ext_G (by simp [rdFrom, tab_length]) fun j hj hj2 => ?_
  rw [rdFrom, tab_length] at hj2
  rw [rdFrom, rdFrom, G_tab hj hj2, G_tab hj hj2]
  have hs : G (acc.set i.toNat (G w (pl p i))) j = if j = i then G w (pl p i) else G acc j := by
    have := G_set (p := acc) (i := i.toNat) (x := G w (pl p i)) (by omega) j hj
    rw [show ((i.toNat : Nat) : Int) = i by omega] at this
    exact this
  rw [hs]
  by_cases e : j = i
  · subst e; rw [if_neg (by omega), if_pos rfl, if_pos (by omega)]
  · by_cases e2 : i ≤ j
    · rw [if_pos (by omega), if_pos e2]
    · rw [if_neg (by omega), if_neg e, if_neg e2]
theorem rdFrom_end (w : List Int) (p : Int) {acc : List Int} (ha : acc.length = 128) : rdFrom w p acc 128 = acc := by
  refine ext_G (by simp [rdFrom, tab_length, ha]) fun j hj hj2 => ?_
  rw [rdFrom, tab_length] at hj2
  rw [rdFrom, G_tab hj hj2, if_neg (by omega)]
theorem rdFrom_zero (w : List Int) (p : Int) (acc : List Int) : rdFrom w p acc 0 = pageW w p := by
  refine ext_G (by simp [rdFrom, pageW, tab_length]) fun j hj hj2 => ?_
  rw [rdFrom, tab_length] at hj2
  rw [rdFrom, pageW, G_tab hj hj2, G_tab hj hj2, if_pos hj]
theorem read_l0 {w : List Int} {p : Int} (h : Fit w p) (z : List Int) : ∀ (m fuel N : Nat) (i : Int) (acc : List Int), i + m = 128 → 0 ≤ i → m < fuel → acc.length = 128 →
    m_arena_Arena_Read_l0 N fuel p i z acc w = some (rdFrom w p acc i, (0 : Int), AR w) := by
  intro m
  induction m with
  | zero =>
    intro fuel N i acc hm hi hf ha
    obtain ⟨fuel, rfl⟩ : ∃ k, fuel = k + 1 := ⟨fuel - 1, by omega⟩
    have e : i = 128 := by omega
    subst e
    rw [rdFrom_end w p ha]
    simp [m_arena_Arena_Read_l0, m_arena_Arena_Read_l0_b]
  | succ m ih =>
    intro fuel N i acc hm hi hf ha
    obtain ⟨fuel, rfl⟩ : ∃ k, fuel = k + 1 := ⟨fuel - 1, by omega⟩
    obtain ⟨x1, x2, x3⟩ := h.at hi (show i < 128 by omega)
    simp only [m_arena_Arena_Read_l0, m_arena_Arena_Read_l0_b, show i < 128 by omega, decide_true, if_true, x3, Option.bind_some, mem_Load (w := w) (i := pl p i) (by omega) x2, hi]
    rw [wI (x := i + 1) (by omega) (by omega), ih fuel N (i + 1) _ (by omega) (by omega) (by omega) (by rw [List.length_set]; exact ha), rdFrom_step w p ha hi (by omega)]
theorem arena_Read {w : List Int} {n : Int} (hs : Sz w n) (p : Int) : m_arena_Arena_Read (AR w) p = some (if p < 1 ∨ n < p then (List.replicate 128 0, (3 : Int), AR w) else (pageW w p, (0 : Int), AR w)) := by
  unfold m_arena_Arena_Read m_arena_Arena_Read_a
  by_cases e1 : p < 1
  · simp [e1]
  by_cases e2 : n < p
  · simp [e1, e2, arena_pages hs]
  simp only [e1, decide_false, Bool.false_eq_true, if_false, arena_pages hs, Option.bind_some, show ¬ p > n from e2, false_or]
  rw [read_l0 (hs.fit (by omega) (by omega)) _ 128 FUEL FUEL 0 _ (by omega) (by omega) (by have := FUEL_big; omega) List.length_replicate, rdFrom_zero]
theorem rread_l0 {w : List Int} {p : Int} (h : Fit w p) (z : List Int) : ∀ (m fuel N : Nat) (i : Int) (acc : List Int), i + m = 128 → 0 ≤ i → m < fuel → acc.length = 128 →
    m_ticketlineref20_Arena_Read_l0 N fuel p i z acc w = some (rdFrom w p acc i, (0 : Int), (w, ())) := by
  have hp := h.lo; have hp2 := h.hi
  intro m
  induction m with
  | zero =>
    intro fuel N i acc hm hi hf ha
    obtain ⟨fuel, rfl⟩ : ∃ k, fuel = k + 1 := ⟨fuel - 1, by omega⟩
    have e : i = 128 := by omega
    subst e
    rw [rdFrom_end w p ha]
    simp [m_ticketlineref20_Arena_Read_l0, m_ticketlineref20_Arena_Read_l0_b]
  | succ m ih =>
    intro fuel N i acc hm hi hf ha
    obtain ⟨fuel, rfl⟩ : ∃ k, fuel = k + 1 := ⟨fuel - 1, by omega⟩
    obtain ⟨x1, x2, x3⟩ := h.at hi (show i < 128 by omega)
    simp only [m_ticketlineref20_Arena_Read_l0, m_ticketlineref20_Arena_Read_l0_b, show i < 128 by omega, decide_true, if_true, ref_at (p := p) (i := i) (by omega) (by omega) (by omega) (by omega), Option.bind_some, show 0 ≤ pl p i by omega, x2, hi, rd_G]
    rw [wI (x := i + 1) (by omega) (by omega), ih fuel N (i + 1) _ (by omega) (by omega) (by omega) (by rw [List.length_set]; exact ha), rdFrom_step w p ha hi (by omega)]
theorem ref_Read {w : List Int} {n : Int} (hs : Sz w n) (p : Int) : m_ticketlineref20_Arena_Read (w, ()) p = some (if p < 1 ∨ n < p then (List.replicate 128 0, (3 : Int), (w, ())) else (pageW w p, (0 : Int), (w, ()))) := by
  unfold m_ticketlineref20_Arena_Read m_ticketlineref20_Arena_Read_a
  by_cases e1 : p < 1
  · simp [e1]
  by_cases e2 : n < p
  · simp [e1, e2, ref_Pages hs]
  simp only [e1, decide_false, Bool.false_eq_true, if_false, ref_Pages hs, Option.bind_some, show ¬ p > n from e2, false_or]
  rw [rread_l0 (hs.fit (by omega) (by omega)) _ 128 FUEL FUEL 0 _ (by omega) (by omega) (by have := FUEL_big; omega) List.length_replicate, rdFrom_zero]
theorem beq_page (l : List Int) : Ty.beq (.arr 128 (.int .u64)) l l = true := by
  simp [Ty.beq]
theorem law20_reads {w : List Int} {n : Int} (hs : Sz w n) (p : Int) (e : Int) : m_ticketlinelaw20_reads (AR w) p (if p < 1 ∨ n < p then List.replicate 128 0 else pageW w p) e = some ((if p < 1 ∨ n < p then (3 : Int) else 0) == e, AR w) := by
  unfold m_ticketlinelaw20_reads
  rw [arena_Read hs]
  by_cases c : p < 1 ∨ n < p
  · simp only [if_pos c, Option.bind_some, beq_page, if_true]
  · simp only [if_neg c, Option.bind_some, beq_page, if_true]

def usedL (w : List Int) : Nat → List Int
  | 0 => []
  | k + 1 => usedL w k ++ (if usedK (K w ((k : Int) + 1)) = true then [(k : Int) + 1] else [])
theorem usedL_len (w : List Int) : ∀ k : Nat, ((usedL w k).length : Int) = cnt usedK w k := by
  intro k
  induction k with
  | zero => rfl
  | succ k ih => simp only [usedL, cnt, List.length_append]; split <;> simp <;> omega
theorem used_l0 {w : List Int} {n : Int} (hs : Sz w n) : ∀ (m fuel N k : Nat), (k : Int) + m = n → m < fuel → m_arena_Arena_Used_l0 N fuel ((k : Int) + 1) (usedL w k) w = some (usedL w n.toNat, AR w) := by
  have hh := hs.hi
  intro m
  induction m with
  | zero =>
    intro fuel N k hk hf
    obtain ⟨fuel, rfl⟩ : ∃ i, fuel = i + 1 := ⟨fuel - 1, by omega⟩
    have e : n.toNat = k := by omega
    simp only [m_arena_Arena_Used_l0, m_arena_Arena_Used_l0_b, arena_pages hs, Option.bind_some, show ¬ (k : Int) + 1 ≤ n by omega, decide_false, Bool.false_eq_true, if_false, e]
  | succ m ih =>
    intro fuel N k hk hf
    obtain ⟨fuel, rfl⟩ : ∃ i, fuel = i + 1 := ⟨fuel - 1, by omega⟩
    have hfit := hs.fit (p := (k : Int) + 1) (by omega) (by omega)
    have r1 := cnt_range usedK w k
    have hlen := usedL_len w k
    have next := ih fuel N (k + 1) (by omega) (by omega)
    simp only [usedL] at next
    have e0 : ((k + 1 : Nat) : Int) = (k : Int) + 1 := by omega
    rw [e0] at next
    have hf : fits ((usedL w k).length + 1) 8 := by unfold fits; omega
    simp only [m_arena_Arena_Used_l0, m_arena_Arena_Used_l0_b, arena_pages hs, Option.bind_some, show (k : Int) + 1 ≤ n by omega, decide_true, if_true, arena_used hfit, List.length_singleton, hf]
    rw [wI (x := (k : Int) + 1 + 1) (by omega) (by omega)]
    cases u0 : usedK (K w ((k : Int) + 1)) with
    | true => rw [u0] at next; simpa using next
    | false => rw [u0] at next; simpa using next
theorem arena_Used {w : List Int} {n : Int} (hs : Sz w n) : m_arena_Arena_Used (AR w) = some (usedL w n.toNat, AR w) := by
  have hh := hs.hi; have hl := hs.lo
  unfold m_arena_Arena_Used m_arena_Arena_Used_a
  have := used_l0 hs n.toNat FUEL FUEL 0 (by omega) (by have := FUEL_big; omega)
  simpa [usedL] using this
theorem usedL_pre (w : List Int) (k : Nat) : ∀ d : Nat, ∃ r, usedL w (k + d) = usedL w k ++ r := by
  intro d
  induction d with
  | zero => exact ⟨[], by simp⟩
  | succ d ih => obtain ⟨r, hr⟩ := ih; exact ⟨_, by rw [← Nat.add_assoc, usedL, hr, List.append_assoc]⟩
theorem usedL_at (w : List Int) {k n : Nat} (h : k < n) (hu : usedK (K w ((k : Int) + 1)) = true) : G (usedL w n) (usedL w k).length = (k : Int) + 1 ∧ (usedL w k).length < (usedL w n).length := by
  obtain ⟨r, hr⟩ := usedL_pre w (k + 1) (n - (k + 1))
  rw [show k + 1 + (n - (k + 1)) = n by omega] at hr
  rw [hr, usedL, hu]
  simp only [if_true]
  constructor
  · unfold G
    rw [show ((usedL w k).length : Int).toNat = (usedL w k).length by omega, List.append_assoc, List.getD_eq_getElem?_getD, List.getElem?_append_right (by omega)]
    simp
  · simp

theorem alike_l1 {w : List Int} {n : Int} (hs : Sz w n) : ∀ (m fuel N k : Nat), (k : Int) + m = n → m < fuel → m_ticketlinelaw20_alike_l1 N fuel (usedL w k).length ((k : Int) + 1) (usedL w n.toNat) w w = some (true, AR w, (w, ())) := by
  have hh := hs.hi
  intro m
  induction m with
  | zero =>
    intro fuel N k hk hf
    obtain ⟨fuel, rfl⟩ : ∃ i, fuel = i + 1 := ⟨fuel - 1, by omega⟩
    have e : n.toNat = k := by omega
    simp only [m_ticketlinelaw20_alike_l1, m_ticketlinelaw20_alike_l1_b, ref_Pages hs, Option.bind_some, show ¬ (k : Int) + 1 ≤ n by omega, decide_false, Bool.false_eq_true, if_false, e, beq_self_eq_true]
  | succ m ih =>
    intro fuel N k hk hf
    obtain ⟨fuel, rfl⟩ : ∃ i, fuel = i + 1 := ⟨fuel - 1, by omega⟩
    have hr := law20_reads hs ((k : Int) + 1) 0
    rw [if_neg (by omega), if_neg (by omega)] at hr
    have hR := ref_Read hs ((k : Int) + 1)
    rw [if_neg (by omega)] at hR
    have next := ih fuel N (k + 1) (by omega) (by omega)
    have hlen := usedL_len w k
    have r1 := cnt_range usedK w k
    have e0 : ((k + 1 : Nat) : Int) = (k : Int) + 1 := by omega
    rw [e0] at next
    have e8 : G (pageW w ((k : Int) + 1)) 8 = K w ((k : Int) + 1) := by unfold pageW; rw [G_tab (by omega) (by omega)]; rfl
    simp only [m_ticketlinelaw20_alike_l1, m_ticketlinelaw20_alike_l1_b, ref_Pages hs, Option.bind_some, show (k : Int) + 1 ≤ n by omega, decide_true, if_true, hR, hr, beq_self_eq_true, Bool.not_true, Bool.false_eq_true, if_false, rd_G, e8]
    rw [wI (x := (k : Int) + 1 + 1) (by omega) (by omega)]
    cases hu : usedK (K w ((k : Int) + 1)) with
    | true =>
      have hu2 := hu
      unfold usedK at hu2
      simp only [Bool.and_eq_true, decide_eq_true_eq] at hu2
      obtain ⟨ha, hlt⟩ := usedL_at w (k := k) (n := n.toNat) (by omega) hu
      rw [usedL, hu] at next
      simp only [if_true, List.length_append, List.length_singleton] at next
      simp only [show K w ((k : Int) + 1) ≥ 1 from hu2.1, hu2.2, decide_true, if_true, show ¬ ((usedL w k).length : Int) ≥ (usedL w n.toNat).length by omega, decide_false, Bool.false_eq_true, if_false, show (0 : Int) ≤ (usedL w k).length by omega,
        show ((usedL w k).length : Int) < (usedL w n.toNat).length by omega, ha, bne_self_eq_false]
      rw [wI (x := ((usedL w k).length : Int) + 1) (by omega) (by omega)]
      rw [show (((usedL w k).length + 1 : Nat) : Int) = ((usedL w k).length : Int) + 1 by omega] at next
      exact next
    | false =>
      rw [usedL, hu] at next
      simp only [Bool.false_eq_true, if_false, List.append_nil] at next
      by_cases c : K w ((k : Int) + 1) ≥ 1
      · have c2 : ¬ K w ((k : Int) + 1) ≤ 6 := by
          intro c2
          unfold usedK at hu
          simp [show 1 ≤ K w ((k : Int) + 1) from c, c2] at hu
        simp only [c, c2, decide_true, decide_false, if_true, Bool.false_eq_true, if_false]
        exact next
      · simp only [c, decide_false, Bool.false_eq_true, if_false]
        exact next
theorem alike_l0 {w : List Int} {n : Int} (hs : Sz w n) : ∀ (m fuel N : Nat) (i : Int), i + m = w.length → 0 ≤ i → m < fuel → 1000 < N → m_ticketlinelaw20_alike_l0 N fuel i w w w = some (true, AR w, (w, ())) := by
  have hh := hs.hi; have hl := hs.lo; have hlen := hs.len; have hb := hs.big
  intro m
  induction m with
  | zero =>
    intro fuel N i hk hi hf hN
    obtain ⟨fuel, rfl⟩ : ∃ i, fuel = i + 1 := ⟨fuel - 1, by omega⟩
    simp only [m_ticketlinelaw20_alike_l0, m_ticketlinelaw20_alike_l0_b, show ¬ i < (w.length : Int) by omega, decide_false, Bool.false_eq_true, if_false, mem_Store (w := w) (i := 1) (by omega) (by omega), Option.bind_some, arena_Used hs]
    exact alike_l1 hs n.toNat N N 0 (by omega) (by omega)
  | succ m ih =>
    intro fuel N i hk hi hf hN
    obtain ⟨fuel, rfl⟩ : ∃ i, fuel = i + 1 := ⟨fuel - 1, by omega⟩
    simp only [m_ticketlinelaw20_alike_l0, m_ticketlinelaw20_alike_l0_b, show i < (w.length : Int) by omega, decide_true, if_true, mem_Load (w := w) (i := i) hi (by omega), Option.bind_some, hi, rd_G, bne_self_eq_false, Bool.false_eq_true, if_false]
    rw [wI (x := i + 1) (by omega) (by omega)]
    exact ih fuel N (i + 1) (by omega) (by omega) (by omega) hN
/-- with the same words an arena is like the reference's -/
theorem alike_same {w : List Int} {n : Int} (hs : Sz w n) : m_ticketlinelaw20_alike (AR w) (w, ()) = some (true, AR w, (w, ())) := by
  have hh := hs.hi; have hl := hs.lo; have hlen := hs.len; have hb := hs.big
  have hz : ¬ ((w.length : Int) == 0) = true := by simp; intro e; subst e; simp at hb
  unfold m_ticketlinelaw20_alike m_ticketlinelaw20_alike_a
  simp only [ref_Pages hs, Option.bind_some, ref_Of hs, in00, in16, in255, law20_counts hs, beq_self_eq_true, Bool.and_true, Bool.not_true, Bool.false_eq_true, if_false, arena_Root (w := w) (by omega), show (3 : Int) < w.length by omega, if_true, rd_G,
    bne_self_eq_false, arena_Mem (w := w) (by omega) (by omega)]
  rw [if_neg hz]
  exact alike_l0 hs w.length FUEL FUEL 0 (by omega) (by omega) (by have := FUEL_big; omega) (by have := FUEL_big; omega)
theorem known20 : m_ticketlinelaw20_known = some true := rfl
end Go.Ev.L
