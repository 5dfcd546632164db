/- Arenas: where the words are, formatted memories, all pages allocated and some released. -/
import Derived.Test.YtbmdoalneeeonaaA3
set_option linter.unusedVariables false
set_option linter.unusedSimpArgs false
namespace Go.Ev.L
open Go Go.Ev Go.Ev.M

theorem law20_memory {n : Int} (h0 : 1 ≤ n) (h1 : n ≤ 65536) : m_ticketlinelaw20_memory n = some (List.replicate n.toNat 0, ()) := by
  unfold m_ticketlinelaw20_memory
  rw [mem_New h0 h1]
  simp
theorem rep_len (n : Nat) : (List.replicate n (0 : Int)).length = n := List.length_replicate
theorem G_put_pl {w : List Int} {p q : Int} (hp : Fit w p) (hq : Fit w q) (x : List Int) {i : Int} (h0 : 8 ≤ i) (h1 : i < 128) : G (putW w q x) (pl p i) = if p = q then G x i else G w (pl p i) := by
  obtain ⟨a, b, _⟩ := hp.at (i := i) (by omega) h1
  rw [G_putW (by omega) b]
  by_cases e : p = q
  · subst e
    rw [if_pos (by unfold pl; omega), if_pos rfl]
    congr 1; unfold pl; omega
  · rw [if_neg (by unfold pl; omega), if_neg e]
theorem G_put_head {w : List Int} {q : Int} (hq : Fit w q) (x : List Int) {j : Int} (h0 : 0 ≤ j) (h1 : j < 24) : G (putW w q x) j = G w j := by
  have := hq.lo; have := hq.room
  rw [G_putW h0 (by unfold pl at *; omega), if_neg (by unfold pl; omega)]
theorem G_wr_pl {w : List Int} {p : Int} (hp : Fit w p) {i : Int} (h0 : 0 ≤ i) (h1 : i < 16) (v : Int) {j : Int} (hj : 0 ≤ j) : G (wr w i v) (pl p j) = G w (pl p j) := by
  have := hp.lo; have := hp.room
  rw [G_wr_ne h0 (by unfold pl at *; omega) _ (by unfold pl; omega) (by unfold pl; omega)]
theorem K_wr {w : List Int} {p : Int} (hp : Fit w p) {i : Int} (h0 : 0 ≤ i) (h1 : i < 16) (v : Int) : K (wr w i v) p = K w p := G_wr_pl hp h0 h1 v (by omega)
theorem K_put {w : List Int} {p q : Int} (hp : Fit w p) (hq : Fit w q) (x : List Int) : K (putW w q x) p = if p = q then G x 8 else K w p := G_put_pl hp hq x (by omega) (by omega)

def freeP (h : Int) : List Int := (List.replicate 128 0).set 10 h
theorem freeP_u {h : Int} (h0 : 0 ≤ h) (h1 : h < 18446744073709551616) : U64 (freeP h) := by
  have := U64_wr (U64_rep 128) 10 h0 h1
  exact this
theorem G_freeP (h : Int) {j : Int} (h0 : 0 ≤ j) : G (freeP h) j = if j = 10 then h else 0 := by
  unfold freeP
  have e := G_set (p := List.replicate 128 (0 : Int)) (i := 10) (x := h) (by simp) j h0
  rw [e]
  have e2 : G (List.replicate 128 (0 : Int)) j = 0 := by
    unfold G; rw [List.getD_eq_getElem?_getD, List.getElem?_replicate]; split <;> rfl
  rw [e2]
  rfl
def freeW (w : List Int) (p : Int) : List Int := wr (putW w p (freeP (G w 1))) 1 p
theorem arena_free {w : List Int} {n p : Int} (hs : Sz w n) (h0 : 1 ≤ p) (h1 : p ≤ n) : m_arena_Arena_free (AR w) p = some (AR (freeW w p)) := by
  have hb := hs.big; have hh := hs.hi
  have hf := hs.fit h0 h1
  unfold m_arena_Arena_free freeW freeP
  simp only [mem_Load (w := w) (i := 1) (by omega) (by omega), Option.bind_some, arena_put hf, mem_Store (w := putW w p ((List.replicate 128 0).set 10 (G w 1))) (i := 1) (by omega) (by rw [putW_length]; omega)]
  rw [wU (x := p) (by omega) (by omega)]
theorem arena_Release {w : List Int} {n : Int} (hs : Sz w n) (p : Int) : m_arena_Arena_Release (AR w) p = some (if busyE w n p true = 0 then ((0 : Int), AR (freeW w p)) else (busyE w n p true, AR w)) := by
  unfold m_arena_Arena_Release
  rw [arena_busy hs]
  simp only [Option.bind_some]
  by_cases e : busyE w n p true = 0
  · have hr : 1 ≤ p ∧ p ≤ n := by
      unfold busyE at e
      split at e <;> omega
    simp only [e, beq_self_eq_true, if_true, arena_free hs hr.1 hr.2, Option.bind_some]
  · rw [if_neg (by simpa using e), if_neg e]
theorem Sz.free {w : List Int} {n p : Int} (hs : Sz w n) (h0 : 1 ≤ p) (h1 : p ≤ n) : Sz (freeW w p) n := by
  have hb := hs.big; have hh := hs.hi; have hg := hs.u.G 1
  exact (hs.put h0 (freeP_u hg.1 hg.2)).wr (i := 1) (by omega) (by rw [putW_length]; omega) (by omega) (by omega)
theorem free_K {w : List Int} {n p q : Int} (hs : Sz w n) (h0 : 1 ≤ p) (h1 : p ≤ n) (h2 : 1 ≤ q) (h3 : q ≤ n) : K (freeW w p) q = if q = p then 0 else K w q := by
  unfold freeW
  rw [K_wr ((hs.fit h2 h3).put _ _) (by omega) (by omega), K_put (hs.fit h2 h3) (hs.fit h0 h1), G_freeP _ (by omega)]
  simp
theorem free_head {w : List Int} {n p : Int} (hs : Sz w n) (h0 : 1 ≤ p) (h1 : p ≤ n) {j : Int} (h2 : 0 ≤ j) (h3 : j < 16) : G (freeW w p) j = if j = 1 then p else G w j := by
  have hb := hs.big
  unfold freeW
  rw [G_wr (by omega) (by rw [putW_length]; omega) _ h2, G_put_head (hs.fit h0 h1) _ h2 (by omega)]
theorem alloc_K {w p : List Int} {n q : Int} (hs : Sz w n) (h0 : 1 ≤ G w 1) (h1 : G w 1 ≤ n) (h2 : 1 ≤ q) (h3 : q ≤ n) : K (allocW w p) q = if q = G w 1 then G p 8 else K w q := by
  unfold allocW
  rw [K_put ((hs.fit h2 h3).wr _ _) ((hs.fit h0 h1).wr _ _), K_wr (hs.fit h2 h3) (by omega) (by omega)]
theorem alloc_link {w p : List Int} {n q : Int} (hs : Sz w n) (h0 : 1 ≤ G w 1) (h1 : G w 1 ≤ n) (h2 : 1 ≤ q) (h3 : q ≤ n) {i : Int} (h4 : 8 ≤ i) (h5 : i < 128) : G (allocW w p) (pl q i) = if q = G w 1 then G p i else G w (pl q i) := by
  unfold allocW
  rw [G_put_pl ((hs.fit h2 h3).wr _ _) ((hs.fit h0 h1).wr _ _) _ h4 h5, G_wr_pl (hs.fit h2 h3) (by omega) (by omega) _ (by omega)]
theorem alloc_head {w p : List Int} {n : Int} (hs : Sz w n) (h0 : 1 ≤ G w 1) (h1 : G w 1 ≤ n) {j : Int} (h2 : 0 ≤ j) (h3 : j < 16) : G (allocW w p) j = if j = 1 then G w (pl (G w 1) 10) else G w j := by
  have hb := hs.big
  unfold allocW
  rw [G_put_head ((hs.fit h0 h1).wr _ _) _ h2 (by omega), G_wr (by omega) (by omega) _ h2]

/-- the first pages are used, the others free, in order -/
structure Row (w : List Int) (n i : Int) : Prop where
  sz : Sz w n
  head : G w 1 = if i ≤ n then i else 0
  root : G w 3 = 0
  used : ∀ p, 1 ≤ p → p ≤ n → p < i → usedK (K w p) = true
  link : ∀ p, 1 ≤ p → p ≤ n → i ≤ p → G w (pl p 10) = if p < n then p + 1 else 0
theorem emptyPage2 : PageOK (emptyS 2 eB eB) := empty_page (by omega) (by omega) (by decide) (by decide)
theorem usedE2 : usedK (G (emptyS 2 eB eB) 8) = true := by decide +kernel
theorem Row.next {w : List Int} {n i : Int} (h : Row w n i) (h0 : 1 ≤ i) (h1 : i ≤ n) : Row (allocW w (emptyS 2 eB eB)) n (i + 1) := by
  have hg : G w 1 = i := by rw [h.head, if_pos h1]
  have ha := h.sz.alloc (p := emptyS 2 eB eB) emptyPage2.2 (by omega)
  refine ⟨ha, ?_, ?_, fun p a b c => ?_, fun p a b c => ?_⟩
  · rw [alloc_head h.sz (by omega) (by omega) (by omega) (by omega), if_pos rfl, hg, h.link i h0 h1 (by omega)]
    by_cases e : i < n
    · rw [if_pos e, if_pos (by omega)]
    · rw [if_neg e, if_neg (by omega)]
  · rw [alloc_head h.sz (by omega) (by omega) (by omega) (by omega), if_neg (by omega)]; exact h.root
  · rw [alloc_K h.sz (by omega) (by omega) a b, hg]
    by_cases e : p = i
    · rw [if_pos e]; exact usedE2
    · rw [if_neg e]; exact h.used p a b (by omega)
  · rw [alloc_link h.sz (by omega) (by omega) a b (by omega) (by omega), hg, if_neg (by omega)]
    exact h.link p a b (by omega)
end Go.Ev.L
