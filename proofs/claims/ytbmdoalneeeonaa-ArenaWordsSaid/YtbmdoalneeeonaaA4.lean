/- Arenas: where the words are, formatted memories, all pages allocated and some released. -/
import Derived.Test.YtbmdoalneeeonaaA3
set_option linter.unusedVariables false
set_option linter.unusedSimpArgs false
namespace Go.Ev.L
open Go Go.Ev Go.Ev.M

theorem u16_range {x : Int} (h : IntKind.min .u16 ≤ x ∧ x ≤ IntKind.max .u16) : 0 ≤ x ∧ x < 65536 := by
  have h1 : IntKind.min .u16 = 0 := rfl
  have h2 : IntKind.max .u16 = 65535 := rfl
  omega
theorem arena_Word (p i : Int) : m_arena_Word p i = some (if 1 ≤ p ∧ p ≤ 511 ∧ 0 ≤ i ∧ i < 128 then (pl p i, (0 : Int)) else ((0 : Int), (3 : Int))) := by
  unfold m_arena_Word
  by_cases h1 : p < 1
  · simp [h1, show ¬ 1 ≤ p by omega]
  by_cases h2 : p > 511
  · simp [h1, h2, show ¬ p ≤ 511 by omega]
  by_cases h3 : i < 0
  · simp [h1, h2, h3, show ¬ 0 ≤ i by omega]
  by_cases h4 : i ≥ 128
  · simp [h1, h2, h3, h4, show ¬ i < 128 by omega]
  have c : 1 ≤ p ∧ p ≤ 511 ∧ 0 ≤ i ∧ i < 128 := ⟨by omega, by omega, by omega, by omega⟩
  simp only [h1, h2, h3, h4, decide_false, Bool.false_eq_true, if_false, place_eq (p := p) (i := i) (by omega) (by omega) (by omega) (by omega), Option.bind_some, if_pos c]
theorem law20_word (p i a b : Int) : m_ticketlinelaw20_word p i a b = some (if 1 ≤ p ∧ p ≤ 511 ∧ 0 ≤ i ∧ i < 128 then (pl p i == a && (0 : Int) == b) else ((0 : Int) == a && (3 : Int) == b)) := by
  unfold m_ticketlinelaw20_word
  rw [arena_Word]
  by_cases c : 1 ≤ p ∧ p ≤ 511 ∧ 0 ≤ i ∧ i < 128
  · simp only [if_pos c, Option.bind_some]
    cases pl p i == a <;> simp
  · simp only [if_neg c, Option.bind_some]
    cases (0 : Int) == a <;> simp
theorem arenaWords_true (p i : Int) : m_ticketlinelaw20_ArenaWords p i = some true := by
  unfold m_ticketlinelaw20_ArenaWords
  by_cases h1 : p < 1
  · simp [h1, law20_word, show ¬ 1 ≤ p by omega, known20]
  by_cases h2 : p > 511
  · simp [h1, h2, law20_word, show ¬ p ≤ 511 by omega, known20]
  by_cases h3 : i < 0
  · simp [h1, h2, h3, law20_word, show ¬ 0 ≤ i by omega, known20]
  by_cases h4 : i > 127
  · simp [h1, h2, h3, h4, law20_word, show ¬ i < 128 by omega, known20]
  rw [wI (x := p - 1) (by omega) (by omega), wI (x := 128 * (p - 1)) (by omega) (by omega), wI (x := 16 + 128 * (p - 1)) (by omega) (by omega), wI (x := 16 + 128 * (p - 1) + i) (by omega) (by omega)]
  simp [h1, h2, h3, h4, law20_word, show 1 ≤ p by omega, show p ≤ 511 by omega, show 0 ≤ i by omega, show i < 128 by omega, pl, known20]

theorem rfmt_l1 (n : Int) (h1 : n ≤ 511) : ∀ (k fuel N : Nat) (p : Int) (w : List Int), 1 ≤ p → p + k = n → pl n 128 ≤ w.length → k < fuel →
    m_ticketlineref20_Format_l1 N fuel n p w = some (some (links w p k, ())) := by
  intro k
  induction k with
  | zero =>
    intro fuel N p w h0 hp hr hf
    obtain ⟨fuel, rfl⟩ : ∃ m, fuel = m + 1 := ⟨fuel - 1, by omega⟩
    simp only [m_ticketlineref20_Format_l1, m_ticketlineref20_Format_l1_b, show ¬ p < n by omega, decide_false, Bool.false_eq_true, if_false, links]
  | succ k ih =>
    intro fuel N p w h0 hp hr hf
    obtain ⟨fuel, rfl⟩ : ∃ m, fuel = m + 1 := ⟨fuel - 1, by omega⟩
    have hw : 0 ≤ pl p 10 ∧ pl p 10 < w.length := by unfold pl at *; omega
    simp only [m_ticketlineref20_Format_l1, m_ticketlineref20_Format_l1_b, show p < n by omega, decide_true, if_true, ref_at (p := p) (i := 10) (by omega) (by omega) (by omega) (by omega), Option.bind_some, hw.1, hw.2]
    rw [wI (x := p + 1) (by omega) (by omega), wU (x := p + 1) (by omega) (by omega)]
    exact ih fuel N (p + 1) (wr w (pl p 10) (p + 1)) (by omega) (by omega) (by rw [wr_length]; exact hr) (by omega)
theorem rfmt_l0 (n : Int) (h0 : 1 ≤ n) (h1 : n ≤ 511) : ∀ (m fuel N : Nat) (i : Int) (w : List Int), i + m = 16 + 128 * n → 0 ≤ i → 16 + 128 * n ≤ w.length → m < fuel → 1000 < N →
    m_ticketlineref20_Format_l0 N fuel n i w = some (some (links (wr (wr (wr (zeroTo w i (16 + 128 * n)) 0 n) 1 1) 4 1) 1 (n - 1).toNat, ())) := by
  have e3 : IntKind.i64.wrap (16 + IntKind.i64.wrap (128 * n)) = 16 + 128 * n := by rw [wI (x := 128 * n) (by omega) (by omega), wI (by omega) (by omega)]
  intro m
  induction m with
  | zero =>
    intro fuel N i w hm hi hr hf hN
    obtain ⟨fuel, rfl⟩ : ∃ m, fuel = m + 1 := ⟨fuel - 1, by omega⟩
    have e : i = 16 + 128 * n := by omega
    subst e
    rw [zeroTo_end]
    have l0 : ∀ i v, (wr w i v).length = w.length := fun i v => wr_length _ _ _
    have f0 : (w.set 0 (IntKind.u64.wrap n)).length = w.length := by simp
    have f1 : ((w.set 0 (IntKind.u64.wrap n)).set 1 1).length = w.length := by simp
    simp only [m_ticketlineref20_Format_l0, m_ticketlineref20_Format_l0_b, e3, Int.lt_irrefl, decide_false, Bool.false_eq_true, if_false, show (0 : Int) < w.length by omega, if_true, f0, f1, show (1 : Int) < w.length by omega, show (4 : Int) < w.length by omega]
    rw [wU (x := n) (by omega) (by omega)]
    exact rfmt_l1 n h1 _ N N 1 _ (by omega) (by omega) (by simp; unfold pl; omega) (by omega)
  | succ m ih =>
    intro fuel N i w hm hi hr hf hN
    obtain ⟨fuel, rfl⟩ : ∃ m, fuel = m + 1 := ⟨fuel - 1, by omega⟩
    simp only [m_ticketlineref20_Format_l0, m_ticketlineref20_Format_l0_b, e3, show i < 16 + 128 * n by omega, decide_true, if_true, hi, show i < w.length by omega]
    rw [wI (x := i + 1) (by omega) (by omega)]
    have := ih fuel N (i + 1) (wr w i 0) (by omega) (by omega) (by rw [wr_length]; exact hr) (by omega) hN
    rw [zeroTo_step hi (by omega) hr] at this
    exact this
theorem ref_Format {w : List Int} {n : Int} (h0 : 1 ≤ n) (h1 : n ≤ 511) (h2 : 16 + 128 * n ≤ w.length) (h3 : w.length ≤ 65536) : m_ticketlineref20_Format w n = some (some (fmtW w n, ())) := by
  unfold m_ticketlineref20_Format m_ticketlineref20_Format_a
  have hf : fits w.length 8 := by unfold fits; omega
  rw [if_pos hf]
  exact rfmt_l0 n h0 h1 (16 + 128 * n).toNat FUEL FUEL 0 w (by omega) (by omega) (by omega) (by have := FUEL_big; omega) (by have := FUEL_big; omega)
theorem law20_memory {n : Int} (h0 : 1 ≤ n) (h1 : n ≤ 65536) : m_ticketlinelaw20_memory n = some (List.replicate n.toNat 0, ()) := by
  unfold m_ticketlinelaw20_memory
  rw [mem_New h0 h1]
  simp
theorem rep_len (n : Nat) : (List.replicate n (0 : Int)).length = n := List.length_replicate
theorem arenaFormats_true (words pages : Int) : m_ticketlinelaw20_ArenaFormats words pages = some true := by
  unfold m_ticketlinelaw20_ArenaFormats
  by_cases h1 : words < 1
  · simp [h1, known20]
  by_cases h2 : words > 3000
  · simp [h1, h2, known20]
  rw [if_neg (by simpa using h1), if_neg (by simpa using h2), law20_memory (by omega) (by omega)]
  simp only [Option.bind_some]
  rw [arena_Format (by rw [rep_len]; omega) (by rw [rep_len]; omega), rep_len]
  by_cases h3 : pages < 1
  · simp [h3, m_ticketlinelaw20_fails, known20]
  by_cases h4 : pages > 511
  · simp [h3, h4, show 511 < pages by omega, m_ticketlinelaw20_fails, known20]
  rw [wI (x := 128 * pages) (by omega) (by omega), wI (x := 16 + 128 * pages) (by omega) (by omega)]
  by_cases h5 : words < 16 + 128 * pages
  · rw [if_pos (.inr (.inr (by omega)))]
    simp [h3, h4, h5, m_ticketlinelaw20_fails, known20]
  rw [if_neg (by omega)]
  have hf : fits words.toNat 8 := by unfold fits; omega
  have hs := fmtW_sz (w := List.replicate words.toNat 0) (n := pages) (by omega) (by omega) (by rw [rep_len]; omega) (by rw [rep_len]; omega) (U64_rep _)
  simp only [Option.bind_some, h3, h4, h5, decide_false, Bool.false_eq_true, if_false, beq_self_eq_true, if_true, show 0 ≤ words by omega, Int.le_refl, hf, ref_Format (w := List.replicate words.toNat 0) (n := pages) (by omega) (by omega) (by rw [rep_len]; omega) (by rw [rep_len]; omega), alike_same hs, known20]

theorem G_put_pl {w : List Int} {p q : Int} (hp : Fit w p) (hq : Fit w q) (x : List Int) {i : Int} (h0 : 8 ≤ i) (h1 : i < 128) : G (putW w q x) (pl p i) = if p = q then G x i else G w (pl p i) := by
  obtain ⟨a, b, _⟩ := hp.at (i := i) (by omega) h1
  rw [G_putW (by omega) b]
  by_cases e : p = q
  · subst e
    rw [if_pos (by unfold pl; omega), if_pos rfl]
    congr 1; unfold pl; omega
  · rw [if_neg (by unfold pl; omega), if_neg e]
theorem G_put_head {w : List Int} {q : Int} (hq : Fit w q) (x : List Int) {j : Int} (h0 : 0 ≤ j) (h1 : j < 24) : G (putW w q x) j = G w j := by
  have := hq.lo; have := hq.room
  rw [G_putW h0 (by unfold pl at *; omega), if_neg (by unfold pl; omega)]
theorem G_wr_pl {w : List Int} {p : Int} (hp : Fit w p) {i : Int} (h0 : 0 ≤ i) (h1 : i < 16) (v : Int) {j : Int} (hj : 0 ≤ j) : G (wr w i v) (pl p j) = G w (pl p j) := by
  have := hp.lo; have := hp.room
  rw [G_wr_ne h0 (by unfold pl at *; omega) _ (by unfold pl; omega) (by unfold pl; omega)]
theorem K_wr {w : List Int} {p : Int} (hp : Fit w p) {i : Int} (h0 : 0 ≤ i) (h1 : i < 16) (v : Int) : K (wr w i v) p = K w p := G_wr_pl hp h0 h1 v (by omega)
theorem K_put {w : List Int} {p q : Int} (hp : Fit w p) (hq : Fit w q) (x : List Int) : K (putW w q x) p = if p = q then G x 8 else K w p := G_put_pl hp hq x (by omega) (by omega)

def b2i (b : Bool) : Int := if b = true then 1 else 0
theorem cnt_change (f : Int → Bool) {w v : List Int} {q : Int} (h0 : 1 ≤ q) : ∀ {k : Nat}, (∀ p : Int, 1 ≤ p → p ≤ k → p ≠ q → K v p = K w p) → q ≤ k → cnt f v k = cnt f w k + b2i (f (K v q)) - b2i (f (K w q)) := by
  intro k
  induction k with
  | zero => intro _ h; omega
  | succ k ih =>
    intro h hq
    simp only [cnt]
    by_cases e : q = (k : Int) + 1
    · subst e
      have : cnt f v k = cnt f w k := cnt_congr fun p a b => by rw [h p a (by omega) (by omega)]
      rw [this]
      unfold b2i
      omega
    · rw [ih (fun p a b c => h p a (by omega) c) (by omega), h ((k : Int) + 1) (by omega) (by omega) (by omega)]
      omega
theorem cnt_all (f : Int → Bool) {w : List Int} : ∀ {k : Nat}, (∀ p : Int, 1 ≤ p → p ≤ k → f (K w p) = true) → cnt f w k = k := by
  intro k
  induction k with
  | zero => intro _; rfl
  | succ k ih =>
    intro h
    simp only [cnt]
    rw [ih (fun p a b => h p a (by omega)), if_pos (h _ (by omega) (by omega))]
    omega
theorem cnt_none (f : Int → Bool) {w : List Int} : ∀ {k : Nat}, (∀ p : Int, 1 ≤ p → p ≤ k → f (K w p) = false) → cnt f w k = 0 := by
  intro k
  induction k with
  | zero => intro _; rfl
  | succ k ih =>
    intro h
    simp only [cnt]
    rw [ih (fun p a b => h p a (by omega)), h _ (by omega) (by omega)]
    rfl

def freeP (h : Int) : List Int := (List.replicate 128 0).set 10 h
theorem freeP_u {h : Int} (h0 : 0 ≤ h) (h1 : h < 18446744073709551616) : U64 (freeP h) := by
  have := U64_wr (U64_rep 128) 10 h0 h1
  exact this
theorem G_freeP (h : Int) {j : Int} (h0 : 0 ≤ j) : G (freeP h) j = if j = 10 then h else 0 := by
  unfold freeP
  have e := G_set (p := List.replicate 128 (0 : Int)) (i := 10) (x := h) (by simp) j h0
  rw [e]
  have e2 : G (List.replicate 128 (0 : Int)) j = 0 := by
    unfold G; rw [List.getD_eq_getElem?_getD, List.getElem?_replicate]; split <;> rfl
  rw [e2]
  rfl
def freeW (w : List Int) (p : Int) : List Int := wr (putW w p (freeP (G w 1))) 1 p
theorem arena_free {w : List Int} {n p : Int} (hs : Sz w n) (h0 : 1 ≤ p) (h1 : p ≤ n) : m_arena_Arena_free (AR w) p = some (AR (freeW w p)) := by
  have hb := hs.big; have hh := hs.hi
  have hf := hs.fit h0 h1
  unfold m_arena_Arena_free freeW freeP
  simp only [mem_Load (w := w) (i := 1) (by omega) (by omega), Option.bind_some, arena_put hf, mem_Store (w := putW w p ((List.replicate 128 0).set 10 (G w 1))) (i := 1) (by omega) (by rw [putW_length]; omega)]
  rw [wU (x := p) (by omega) (by omega)]
theorem arena_Release {w : List Int} {n : Int} (hs : Sz w n) (p : Int) : m_arena_Arena_Release (AR w) p = some (if busyE w n p true = 0 then ((0 : Int), AR (freeW w p)) else (busyE w n p true, AR w)) := by
  unfold m_arena_Arena_Release
  rw [arena_busy hs]
  simp only [Option.bind_some]
  by_cases e : busyE w n p true = 0
  · have hr : 1 ≤ p ∧ p ≤ n := by
      unfold busyE at e
      split at e <;> omega
    simp only [e, beq_self_eq_true, if_true, arena_free hs hr.1 hr.2, Option.bind_some]
  · rw [if_neg (by simpa using e), if_neg e]
theorem Sz.free {w : List Int} {n p : Int} (hs : Sz w n) (h0 : 1 ≤ p) (h1 : p ≤ n) : Sz (freeW w p) n := by
  have hb := hs.big; have hh := hs.hi; have hg := hs.u.G 1
  exact (hs.put h0 (freeP_u hg.1 hg.2)).wr (i := 1) (by omega) (by rw [putW_length]; omega) (by omega) (by omega)
theorem free_K {w : List Int} {n p q : Int} (hs : Sz w n) (h0 : 1 ≤ p) (h1 : p ≤ n) (h2 : 1 ≤ q) (h3 : q ≤ n) : K (freeW w p) q = if q = p then 0 else K w q := by
  unfold freeW
  rw [K_wr ((hs.fit h2 h3).put _ _) (by omega) (by omega), K_put (hs.fit h2 h3) (hs.fit h0 h1), G_freeP _ (by omega)]
  simp
theorem free_head {w : List Int} {n p : Int} (hs : Sz w n) (h0 : 1 ≤ p) (h1 : p ≤ n) {j : Int} (h2 : 0 ≤ j) (h3 : j < 16) : G (freeW w p) j = if j = 1 then p else G w j := by
  have hb := hs.big
  unfold freeW
  rw [G_wr (by omega) (by rw [putW_length]; omega) _ h2, G_put_head (hs.fit h0 h1) _ h2 (by omega)]
theorem law20_allocs {w p : List Int} {n : Int} (hs : Sz w n) (hp : PageOK p) (hf : G w 1 ≤ n) (a b : Int) : m_ticketlinelaw20_allocs (AR w) p a b =
    some (if validB p = false then ((0 : Int) == a && (12 : Int) == b, AR w) else if G w 1 = 0 then ((0 : Int) == a && (7 : Int) == b, AR w) else (G w 1 == a && (0 : Int) == b, AR (allocW w p))) := by
  unfold m_ticketlinelaw20_allocs
  rw [arena_Alloc hs hp hf]
  cases hv : validB p with
  | false => simp only [if_true, Option.bind_some]; cases (0 : Int) == a <;> simp
  | true =>
    simp only [Bool.true_eq_false, if_false]
    by_cases e : G w 1 = 0
    · simp only [if_pos e, Option.bind_some]; cases (0 : Int) == a <;> simp
    · simp only [if_neg e, Option.bind_some]; cases G w 1 == a <;> simp
theorem alloc_K {w p : List Int} {n q : Int} (hs : Sz w n) (h0 : 1 ≤ G w 1) (h1 : G w 1 ≤ n) (h2 : 1 ≤ q) (h3 : q ≤ n) : K (allocW w p) q = if q = G w 1 then G p 8 else K w q := by
  unfold allocW
  rw [K_put ((hs.fit h2 h3).wr _ _) ((hs.fit h0 h1).wr _ _), K_wr (hs.fit h2 h3) (by omega) (by omega)]
theorem alloc_link {w p : List Int} {n q : Int} (hs : Sz w n) (h0 : 1 ≤ G w 1) (h1 : G w 1 ≤ n) (h2 : 1 ≤ q) (h3 : q ≤ n) {i : Int} (h4 : 8 ≤ i) (h5 : i < 128) : G (allocW w p) (pl q i) = if q = G w 1 then G p i else G w (pl q i) := by
  unfold allocW
  rw [G_put_pl ((hs.fit h2 h3).wr _ _) ((hs.fit h0 h1).wr _ _) _ h4 h5, G_wr_pl (hs.fit h2 h3) (by omega) (by omega) _ (by omega)]
theorem alloc_head {w p : List Int} {n : Int} (hs : Sz w n) (h0 : 1 ≤ G w 1) (h1 : G w 1 ≤ n) {j : Int} (h2 : 0 ≤ j) (h3 : j < 16) : G (allocW w p) j = if j = 1 then G w (pl (G w 1) 10) else G w j := by
  have hb := hs.big
  unfold allocW
  rw [G_put_head ((hs.fit h0 h1).wr _ _) _ h2 (by omega), G_wr (by omega) (by omega) _ h2]

/-- the first pages are used, the others free, in order -/
structure Row (w : List Int) (n i : Int) : Prop where
  sz : Sz w n
  head : G w 1 = if i ≤ n then i else 0
  root : G w 3 = 0
  used : ∀ p, 1 ≤ p → p ≤ n → p < i → usedK (K w p) = true
  link : ∀ p, 1 ≤ p → p ≤ n → i ≤ p → G w (pl p 10) = if p < n then p + 1 else 0
theorem emptyPage2 : PageOK (emptyS 2 eB eB) := empty_page (by omega) (by omega) (by decide) (by decide)
theorem validE2 : validB (emptyS 2 eB eB) = true := by
  have h := slot_Valid emptyPage2
  have e : m_slot_Valid (emptyS 2 eB eB) = some true := by decide +kernel
  rw [e] at h
  exact (Option.some.inj h).symm
theorem usedE2 : usedK (G (emptyS 2 eB eB) 8) = true := by decide +kernel
theorem Row.start {n : Int} (h0 : 1 ≤ n) (h1 : n ≤ 511) : Row (fmtW (List.replicate 65536 0) n) n 1 := by
  have hl : (List.replicate 65536 (0 : Int)).length = 65536 := rep_len _
  have hg := fun j hj => G_fmtW (w := List.replicate 65536 0) (n := n) h0 (by rw [hl]; omega) (j := j) hj
  refine ⟨fmtW_sz h0 h1 (by rw [hl]; omega) (by rw [hl]; omega) (U64_rep _), ?_, ?_, fun p a b c => by omega, fun p a b c => ?_⟩
  · rw [hg 1 (by omega), if_neg (by omega), if_neg (by omega), if_pos rfl, if_pos h0]
  · rw [hg 3 (by omega), if_neg (by omega), if_neg (by omega), if_neg (by omega), if_neg (by omega), if_pos (by omega)]
  · rw [hg _ (by unfold pl; omega)]
    by_cases e : p < n
    · rw [if_pos (by unfold pl; omega), if_pos e]; unfold pl; omega
    · rw [if_neg (by unfold pl; omega), if_neg (by unfold pl; omega), if_neg (by unfold pl; omega), if_neg (by unfold pl; omega), if_pos (by unfold pl; omega), if_neg e]
theorem Row.next {w : List Int} {n i : Int} (h : Row w n i) (h0 : 1 ≤ i) (h1 : i ≤ n) : Row (allocW w (emptyS 2 eB eB)) n (i + 1) := by
  have hg : G w 1 = i := by rw [h.head, if_pos h1]
  have ha := h.sz.alloc (p := emptyS 2 eB eB) emptyPage2.2 (by omega)
  refine ⟨ha, ?_, ?_, fun p a b c => ?_, fun p a b c => ?_⟩
  · rw [alloc_head h.sz (by omega) (by omega) (by omega) (by omega), if_pos rfl, hg, h.link i h0 h1 (by omega)]
    by_cases e : i < n
    · rw [if_pos e, if_pos (by omega)]
    · rw [if_neg e, if_neg (by omega)]
  · rw [alloc_head h.sz (by omega) (by omega) (by omega) (by omega), if_neg (by omega)]; exact h.root
  · rw [alloc_K h.sz (by omega) (by omega) a b, hg]
    by_cases e : p = i
    · rw [if_pos e]; exact usedE2
    · rw [if_neg e]; exact h.used p a b (by omega)
  · rw [alloc_link h.sz (by omega) (by omega) a b (by omega) (by omega), hg, if_neg (by omega)]
    exact h.link p a b (by omega)
theorem many_l1 {n each : Int} (he : 2 ≤ each) (he2 : each < 65536) (hn : n ≤ 511) : ∀ (m fuel N : Nat) (r i : Int) (w : List Int), n + 1 - i ≤ m → m < fuel → 1 ≤ i → i ≤ 70000 → Sz w n → G w 3 = 0 → (∀ p, i ≤ p → p ≤ n → usedK (K w p) = true) →
    cnt freeK w n.toNat = r → cnt usedK w n.toNat = n - r → cnt defK w n.toNat = 0 → m_ticketlinelaw20_ArenaMany_l1 N fuel n each r i w = some true := by
  intro m
  induction m with
  | zero =>
    intro fuel N r i w hm hf hi hi2 hs hr hu c0 c1 c2
    obtain ⟨fuel, rfl⟩ : ∃ m, fuel = m + 1 := ⟨fuel - 1, by omega⟩
    have r0 := cnt_range freeK w n.toNat
    have hlo := hs.lo
    have hlen := usedL_len w n.toNat
    simp only [m_ticketlinelaw20_ArenaMany_l1, m_ticketlinelaw20_ArenaMany_l1_b, show ¬ i ≤ n by omega, decide_false, Bool.false_eq_true, if_false]
    rw [wI (x := n - r) (by omega) (by omega)]
    simp only [law20_counts hs, c0, c1, c2, beq_self_eq_true, Bool.and_true, Option.bind_some, if_true, arena_Used hs, hlen, known20]
  | succ m ih =>
    intro fuel N r i w hm hf hi hi2 hs hr hu c0 c1 c2
    obtain ⟨fuel, rfl⟩ : ∃ m, fuel = m + 1 := ⟨fuel - 1, by omega⟩
    have r0 := cnt_range freeK w n.toNat
    have hlo := hs.lo
    have hlen := usedL_len w n.toNat
    by_cases e : i ≤ n
    · have hk := hu i (by omega) e
      have hb : busyE w n i true = 0 := by
        unfold busyE
        rw [if_neg (by omega), hk]
        simp [hr]; omega
      have hrel := arena_Release hs i
      rw [if_pos hb] at hrel
      have hKi : K (freeW w i) i = 0 := by rw [free_K hs hi e hi e, if_pos rfl]
      have hKo : ∀ p : Int, 1 ≤ p → p ≤ n → p ≠ i → K (freeW w i) p = K w p := fun p a b c => by rw [free_K hs hi e a b, if_neg c]
      have ch := fun f => cnt_change f (w := w) (v := freeW w i) hi (k := n.toNat) (fun p a b c => hKo p a (by omega) c) (by omega)
      have f0 : freeK (K w i) = false := by
        unfold freeK usedK at *
        simp only [Bool.and_eq_true, decide_eq_true_eq] at hk
        simp; omega
      have d0 : defK (K w i) = false := by
        unfold defK usedK at *
        simp only [Bool.and_eq_true, decide_eq_true_eq] at hk
        simp; omega
      have cf := ch freeK
      have cu := ch usedK
      have cd := ch defK
      rw [hKi, f0] at cf
      rw [hKi, hk] at cu
      rw [hKi, d0] at cd
      have v1 : b2i (freeK 0) = 1 := rfl
      have v2 : b2i (usedK 0) = 0 := rfl
      have v3 : b2i (defK 0) = 0 := rfl
      have v4 : b2i false = 0 := rfl
      have v5 : b2i true = 1 := rfl
      rw [v1, v4] at cf
      rw [v2, v5] at cu
      rw [v3, v4] at cd
      simp only [m_ticketlinelaw20_ArenaMany_l1, m_ticketlinelaw20_ArenaMany_l1_b, e, decide_true, if_true, hrel, Option.bind_some, bne_self_eq_false, Bool.false_eq_true, if_false]
      rw [wI (x := r + 1) (by omega) (by omega), wI (x := each) (by omega) (by omega), wI (x := i + each) (by omega) (by omega)]
      exact ih fuel N (r + 1) (i + each) _ (by omega) (by omega) (by omega) (by omega) (hs.free hi e) (by rw [free_head hs hi e (by omega) (by omega), if_neg (by omega)]; exact hr)
        (fun p a b => by rw [hKo p (by omega) b (by omega)]; exact hu p (by omega) b) (by omega) (by omega) (by omega)
    · simp only [m_ticketlinelaw20_ArenaMany_l1, m_ticketlinelaw20_ArenaMany_l1_b, e, decide_false, Bool.false_eq_true, if_false]
      rw [wI (x := n - r) (by omega) (by omega)]
      simp only [law20_counts hs, c0, c1, c2, beq_self_eq_true, Bool.and_true, Option.bind_some, if_true, arena_Used hs, hlen, known20]
theorem many_l0 {n each : Int} (he : 2 ≤ each) (he2 : each < 65536) (h0 : 1 ≤ n) (hn : n ≤ 511) : ∀ (m fuel N : Nat) (i : Int) (w : List Int), i + m = n + 1 → m < fuel → 1000 < N → 1 ≤ i → Row w n i →
    m_ticketlinelaw20_ArenaMany_l0 N fuel n each i (emptyS 2 eB eB) w = some true := by
  intro m
  induction m with
  | zero =>
    intro fuel N i w hm hf hN hi h
    obtain ⟨fuel, rfl⟩ : ∃ m, fuel = m + 1 := ⟨fuel - 1, by omega⟩
    have hg : G w 1 = 0 := by rw [h.head, if_neg (by omega)]
    have ha := law20_allocs h.sz emptyPage2 (by omega) 0 7
    rw [validE2, if_neg (by simp), if_pos hg] at ha
    have hu : ∀ p : Int, 1 ≤ p → p ≤ n.toNat → usedK (K w p) = true := fun p a b => h.used p a (by omega) (by omega)
    have c1 := cnt_all usedK hu
    have c0 : cnt freeK w n.toNat = 0 := cnt_none freeK fun p a b => by
      have := hu p a b
      unfold freeK usedK at *
      simp only [Bool.and_eq_true, decide_eq_true_eq] at this
      simp; omega
    have c2 : cnt defK w n.toNat = 0 := cnt_none defK fun p a b => by
      have := hu p a b
      unfold defK usedK at *
      simp only [Bool.and_eq_true, decide_eq_true_eq] at this
      simp; omega
    simp only [m_ticketlinelaw20_ArenaMany_l0, m_ticketlinelaw20_ArenaMany_l0_b, show ¬ i ≤ n by omega, decide_false, Bool.false_eq_true, if_false, ha, Option.bind_some, beq_self_eq_true, Bool.and_true, Bool.not_true]
    rw [wI (x := each) (by omega) (by omega)]
    exact many_l1 he he2 hn 600 N N 0 each w (by omega) (by omega) (by omega) (by omega) h.sz h.root (fun p a b => hu p (by omega) (by omega)) c0 (by omega) c2
  | succ m ih =>
    intro fuel N i w hm hf hN hi h
    obtain ⟨fuel, rfl⟩ : ∃ m, fuel = m + 1 := ⟨fuel - 1, by omega⟩
    have e : i ≤ n := by omega
    have hg : G w 1 = i := by rw [h.head, if_pos e]
    have ha := law20_allocs h.sz emptyPage2 (by omega) i 0
    rw [validE2, if_neg (by simp), if_neg (by omega), hg] at ha
    simp only [m_ticketlinelaw20_ArenaMany_l0, m_ticketlinelaw20_ArenaMany_l0_b, e, decide_true, if_true, ha, Option.bind_some, beq_self_eq_true, Bool.and_true, Bool.not_true, Bool.false_eq_true, if_false]
    rw [wI (x := i + 1) (by omega) (by omega)]
    exact ih fuel N (i + 1) _ (by omega) (by omega) hN (by omega) (h.next hi e)
theorem arenaMany_true (pages : Int) {each : Int} (he : 0 ≤ each ∧ each < 65536) : m_ticketlinelaw20_ArenaMany pages each = some true := by
  unfold m_ticketlinelaw20_ArenaMany m_ticketlinelaw20_ArenaMany_a
  by_cases h1 : pages < 509
  · simp [h1, known20]
  by_cases h2 : pages > 513
  · simp [h1, h2, known20]
  by_cases h3 : each < 2
  · simp [h1, h2, h3, known20]
  rw [if_neg (by simpa using h1), if_neg (by simpa using h2), if_neg (by simpa using h3), law20_memory (by omega) (by omega)]
  simp only [Option.bind_some]
  rw [show (65536 : Int).toNat = 65536 by rfl, arena_Format (by rw [rep_len]; omega) (by rw [rep_len]; omega), rep_len]
  by_cases h4 : pages > 511
  · rw [if_pos (.inr (.inl (by omega)))]
    simp only [Option.bind_some, h4, decide_true, if_true, m_ticketlinelaw20_fails, beq_self_eq_true, known20]
  · rw [if_neg (by omega)]
    simp only [Option.bind_some, h4, decide_false, Bool.false_eq_true, if_false, bne_self_eq_false, show (⟨#[]⟩ : ByteArray) = eB from rfl, ref_Empty (level := 2) (low := eB) (high := eB) (by omega) (by omega) (by decide) (by decide)]
    exact many_l0 (by omega) he.2 (by omega) (by omega) pages.toNat FUEL FUEL 1 _ (by omega) (by have := FUEL_big; omega) (by have := FUEL_big; omega) (by omega) (Row.start (by omega) (by omega))
end Go.Ev.L
