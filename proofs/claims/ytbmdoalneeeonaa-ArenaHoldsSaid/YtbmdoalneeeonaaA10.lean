/- Arenas: the theorem of the stage. -/
import Derived.Test.YtbmdoalneeeonaaA9
set_option linter.unusedVariables false
set_option linter.unusedSimpArgs false
namespace Go.Ev.L
open Go Go.Ev Go.Ev.M

theorem sound_marks {w : List Int} {n : Int} (hs : Sz w n) (hr : rootB w n = true) (dl : List Int) (hd : dl.length ≤ 600) : ∀ (rest pre : List Int) (mark : Int) (f1 N1 : Nat), dl = pre ++ rest → (∀ p ∈ rest, 1 ≤ p ∧ p ≤ n) → Mk w mark rest → rest.length < f1 →
    m_arena_Arena_sound_l0 N1 f1 n mark dl.length pre.length dl w = some (true, AR w) := by
  have hh := hs.hi; have hb := hs.big; have hlo := hs.lo
  intro rest
  induction rest with
  | nil =>
    intro pre mark f1 N1 h hm hk h1
    obtain ⟨f1, rfl⟩ : ∃ i, f1 = i + 1 := ⟨f1 - 1, by omega⟩
    have hlen : dl.length = pre.length := by rw [h]; simp
    have hg := hs.u.G 3
    simp only [m_arena_Arena_sound_l0, m_arena_Arena_sound_l0_b, show ¬ (pre.length : Int) < dl.length by omega, decide_false, Bool.false_eq_true, if_false, mem_Load (w := w) (i := 3) (by omega) (by omega), Option.bind_some]
    by_cases e : G w 3 = 0
    · simp [e]
    · have e2 : (G w 3 == 0) = false := by simpa using e
      unfold rootB at hr
      rw [e2] at hr
      simp only [Bool.false_or, Bool.and_eq_true, decide_eq_true_eq] at hr
      rw [if_neg (by simpa using e), wU (x := n) (by omega) (by omega), wI (x := G w 3) (by omega) (by omega)]
      simp only [hr.1, decide_true, if_true, arena_used (hs.fit (p := G w 3) (by omega) hr.1), Option.bind_some, hr.2]
  | cons p r ih =>
    intro pre mark f1 N1 h hm hk h1
    obtain ⟨f1, rfl⟩ : ∃ i, f1 = i + 1 := ⟨f1 - 1, by omega⟩
    have hlen : dl.length = pre.length + (r.length + 1) := by rw [h]; simp <;> omega
    obtain ⟨p1, p2⟩ := hm p (List.mem_cons_self ..)
    obtain ⟨k1, k2, k3⟩ := hk
    obtain ⟨x1, x2, x3⟩ := (hs.fit p1 p2).at (i := 11) (by omega) (by omega)
    have hg : G dl pre.length = p := by rw [h]; exact G_app pre p r
    simp only [List.length_cons] at h1
    have k1 : ¬ G w (pl p 11) < 1 := by unfold mrk at k1; omega
    have k2 : ¬ G w (pl p 11) ≥ mark := by unfold mrk at k2; omega
    simp only [m_arena_Arena_sound_l0, m_arena_Arena_sound_l0_b, show (pre.length : Int) < dl.length by omega, decide_true, if_true, show (0 : Int) ≤ pre.length by omega, rd_G, hg, x3, Option.bind_some, mem_Load (w := w) (i := pl p 11) (by omega) x2, k1, k2, decide_false, Bool.false_eq_true, if_false]
    have hn := ih (pre ++ [p]) (G w (pl p 11)) f1 N1 (by rw [h]; simp) (fun q hq => hm q (List.mem_cons_of_mem _ hq)) k3 (by omega)
    have e1 : (pre ++ [p]).length = pre.length + 1 := by simp
    rw [e1] at hn
    rw [wI (x := (pre.length : Int) + 1) (by omega) (by omega)]
    exact hn
theorem AI.rootB {w : List Int} {n : Int} {fl dl : List Int} (h : AI w n fl dl) : rootB w n = true := by
  unfold L.rootB
  rcases h.root with e | ⟨e1, e2, e3⟩
  · simp [e]
  · simp [e2, e3]
theorem open_AI {w : List Int} {n : Int} {fl dl : List Int} (h : AI w n fl dl) : m_arena_Open (w, ()) = some (some (AR w), (0 : Int), (w, ())) := by
  have hs := h.sz
  have hb := hs.big; have hh := hs.hi; have hlo := hs.lo; have hlen := hs.len; have hroom := hs.room
  have hz : ((w.length : Int) == 0) = false := by simp; intro e; subst e; simp at hb
  have g0 := hs.pages
  have w2 := wI (x := n + 1) (by omega) (by omega)
  have w1 := wI (x := n) (by omega) (by omega)
  have w5 := place_eq (p := n + 1) (i := 0) (by omega) (by omega) (by omega) (by omega)
  have e3 : ¬ pl (n + 1) 0 > w.length := by unfold pl at *; omega
  have k1 := cnt_range freeK w n.toNat
  have k2 := cnt_range usedK w n.toNat
  have k3 := cnt_range defK w n.toNat
  have hsum := h.sum
  have hfl := h.flen
  have hdl := h.dlen
  have hm1 := h.m1
  have hm2 := h.m2
  have hsound : m_arena_Arena_sound (AR w) = some (true, AR w) := by
    unfold m_arena_Arena_sound m_arena_Arena_sound_a
    simp only [arena_list_free h, arena_list_def h, Option.bind_some, arena_Counts hs, mem_Load (w := w) (i := 4) (by omega) (by omega)]
    rw [wI (x := cnt freeK w n.toNat + cnt usedK w n.toNat) (by omega) (by omega), wI (x := cnt freeK w n.toNat + cnt usedK w n.toNat + cnt defK w n.toNat) (by omega) (by omega)]
    simp only [Bool.not_true, Bool.false_eq_true, if_false, hfl, hdl, hsum, bne_self_eq_false, show ¬ G w 4 < 1 by omega, show ¬ G w 4 > 1099511627776 by omega, decide_false]
    have := sound_marks hs h.rootB dl (by omega) dl [] (G w 4) FUEL FUEL rfl (fun p hp => ⟨(h.defd.mem p hp).1, (h.defd.mem p hp).2.1⟩) h.marks (by have := FUEL_big; omega)
    rw [← hdl]
    exact this
  unfold m_arena_Open
  simp only [hz, Bool.false_eq_true, if_false, mem_Load (w := w) (i := 0) (by omega) (by omega), Option.bind_some, bne_self_eq_false, g0, show ¬ n < 1 by omega, show ¬ n > 511 by omega, decide_false, w1, w2, w5, e3, mem_Copy (w := w) (by omega) (by omega), hsound, Bool.not_true]

def GW (l : List (List Int)) (k : Int) : List Int := rd (.arr 128 (.int .u64)) l k
theorem GW_set {l : List (List Int)} {a : Int} {x : List Int} (h0 : 0 ≤ a) (h1 : a < l.length) {k : Int} (hk : 0 ≤ k) : GW (l.set a.toNat x) k = if k = a then x else GW l k := by
  unfold GW rd
  rw [List.getD_eq_getElem?_getD, List.getD_eq_getElem?_getD, List.getElem?_set]
  by_cases e : k = a
  · subst e
    rw [if_pos rfl, if_pos rfl, if_pos (by omega)]
    rfl
  · rw [if_neg (by omega), if_neg e]
structure HI (w : List Int) (n : Int) (fl dl : List Int) (ws : List (List Int)) (ms : List Int) : Prop where
  ai : AI w n fl dl
  wl : (ws.length : Int) = n + 1
  ml : (ms.length : Int) = n + 1
  d : ∀ k, 1 ≤ k → k ≤ n → K w k = 255 → G ms k = mrk w k ∧ G (GW ws k) 8 = 0
  f : ∀ k, 1 ≤ k → k ≤ n → K w k = 0 → G ms k = 0 ∧ G (GW ws k) 8 = 0
  u : ∀ k, 1 ≤ k → k ≤ n → usedK (K w k) = true → G ms k = 0 ∧ ∀ j, 8 ≤ j → j < 128 → G (GW ws k) j = G w (pl k j)
theorem G_ms {l : List Int} {a x : Int} (h0 : 0 ≤ a) (h1 : a < l.length) {k : Int} (hk : 0 ≤ k) : G (l.set a.toNat x) k = if k = a then x else G l k := G_wr h0 h1 x hk
theorem HI.mrk_pos {w : List Int} {n : Int} {fl dl : List Int} {ws : List (List Int)} {ms : List Int} (h : HI w n fl dl ws ms) {k : Int} (h0 : 1 ≤ k) (h1 : k ≤ n) (hk : K w k = 255) : 1 ≤ mrk w k := ((h.ai.marks).lt k (h.ai.dall k h0 h1 hk)).1

section
variable {w : List Int} {n : Int} {fl dl : List Int} {ws : List (List Int)} {ms : List Int}
theorem check_l11 (h : HI w n fl dl ws ms) (s0 : Int → List Act → Int → List (List Int) → List Int → List Int → Option Bool) (s9 : Int → List Act → Int → Int → Int → Int → Int → List (List Int) → List Int → List Int → Option Bool) (acts : List Act) (i a b c k : Int) (k0 : 1 ≤ k) (k1 : k ≤ n) (hu : usedK (K w k) = true) :
    ∀ (m fuel N : Nat) (j : Int), j + m = 128 → 8 ≤ j → m < fuel → m_ticketlinelaw20_ArenaHolds_l11 N s0 s9 fuel n acts i a b c k j ws ms (pageW w k) w = s9 n acts i a b c (k + 1) ws ms w := by
  have hh := h.ai.sz.hi
  have hwl := h.wl
  intro m
  induction m with
  | zero =>
    intro fuel N j hm hj hf
    obtain ⟨fuel, rfl⟩ : ∃ i, fuel = i + 1 := ⟨fuel - 1, by omega⟩
    simp only [m_ticketlinelaw20_ArenaHolds_l11, m_ticketlinelaw20_ArenaHolds_l11_b, show ¬ j < 128 by omega, decide_false, Bool.false_eq_true, if_false, m_ticketlinelaw20_ArenaHolds_l10, m_ticketlinelaw20_ArenaHolds_l10_b]
    rw [wI (x := k + 1) (by omega) (by omega)]
  | succ m ih =>
    intro fuel N j hm hj hf
    obtain ⟨fuel, rfl⟩ : ∃ i, fuel = i + 1 := ⟨fuel - 1, by omega⟩
    have e : G (pageW w k) j = G (GW ws k) j := by
      rw [(h.u k k0 k1 hu).2 j hj (by omega)]
      unfold pageW
      rw [G_tab (by omega) (by omega)]
    have e2 : (rd (.int .u64) (pageW w k) j != rd (.int .u64) (rd (.arr 128 (.int .u64)) ws k) j) = false := by
      show (G (pageW w k) j != G (GW ws k) j) = false
      rw [e]; simp
    simp only [m_ticketlinelaw20_ArenaHolds_l11, m_ticketlinelaw20_ArenaHolds_l11_b, show j < 128 by omega, decide_true, if_true, show 0 ≤ j by omega, show 0 ≤ k by omega, show k < (ws.length : Int) by omega, e2, Bool.false_eq_true, if_false]
    rw [wI (x := j + 1) (by omega) (by omega)]
    exact ih fuel N (j + 1) (by omega) (by omega) (by omega)
theorem check_l9 (h : HI w n fl dl ws ms) (s0 : Int → List Act → Int → List (List Int) → List Int → List Int → Option Bool) (acts : List Act) (i : Int) (hi : 0 ≤ i ∧ i ≤ 1000) :
    ∀ (m fuel N k : Nat), (k : Int) + m = n → m < fuel → 1000 < N → m_ticketlinelaw20_ArenaHolds_l9 N s0 fuel n acts i (cnt freeK w k) (cnt usedK w k) (cnt defK w k) ((k : Int) + 1) ws ms w = s0 n acts (i + 1) ws ms w := by
  have hs := h.ai.sz
  have hh := hs.hi; have hb := hs.big; have hlen := hs.len
  have hwl := h.wl
  have hml := h.ml
  intro m
  induction m with
  | zero =>
    intro fuel N k hk hf hN
    obtain ⟨fuel, rfl⟩ : ∃ i, fuel = i + 1 := ⟨fuel - 1, by omega⟩
    have e : n.toNat = k := by omega
    simp only [m_ticketlinelaw20_ArenaHolds_l9, m_ticketlinelaw20_ArenaHolds_l9_b, show ¬ (k : Int) + 1 ≤ n by omega, decide_false, Bool.false_eq_true, if_false, arena_Mem (w := w) (by omega) (by omega), Option.bind_some, open_AI h.ai, bne_self_eq_false, law20_counts hs, e, beq_self_eq_true, Bool.and_true, Bool.not_true]
    rw [wI (x := i + 1) (by omega) (by omega)]
  | succ m ih =>
    intro fuel N k hk hf hN
    obtain ⟨fuel, rfl⟩ : ∃ i, fuel = i + 1 := ⟨fuel - 1, by omega⟩
    have r1 := cnt_range freeK w k
    have r2 := cnt_range usedK w k
    have r3 := cnt_range defK w k
    have next := ih fuel N (k + 1) (by omega) (by omega) hN
    simp only [cnt] at next
    have e0 : ((k + 1 : Nat) : Int) = (k : Int) + 1 := by omega
    rw [e0] at next
    have hR := arena_Read hs ((k : Int) + 1)
    rw [if_neg (by omega)] at hR
    have e8 : rd (.int .u64) (rd (.arr 128 (.int .u64)) ws ((k : Int) + 1)) 8 = G (GW ws ((k : Int) + 1)) 8 := rfl
    simp only [m_ticketlinelaw20_ArenaHolds_l9, m_ticketlinelaw20_ArenaHolds_l9_b, show (k : Int) + 1 ≤ n by omega, decide_true, if_true, hR, Option.bind_some, bne_self_eq_false, Bool.false_eq_true, if_false, show (0 : Int) ≤ (k : Int) + 1 by omega, show (k : Int) + 1 < (ms.length : Int) by omega, show (k : Int) + 1 < (ws.length : Int) by omega,
      rd_G, e8, m_ticketlinelaw20_ArenaHolds_l10, m_ticketlinelaw20_ArenaHolds_l10_b]
    rw [wI (x := cnt freeK w k + 1) (by omega) (by omega), wI (x := cnt usedK w k + 1) (by omega) (by omega), wI (x := cnt defK w k + 1) (by omega) (by omega), wI (x := (k : Int) + 1 + 1) (by omega) (by omega)]
    rcases h.ai.kinds ((k : Int) + 1) (by omega) (by omega) with c | c | c
    · obtain ⟨m0, w0⟩ := h.f _ (by omega) (by omega) c
      have f0 : freeK (K w ((k : Int) + 1)) = true := by rw [c]; rfl
      have u0 : usedK (K w ((k : Int) + 1)) = false := by rw [c]; rfl
      have d0 : defK (K w ((k : Int) + 1)) = false := by rw [c]; rfl
      rw [f0, u0, d0] at next
      simp only [m0, w0, show ¬ (0 : Int) > 0 by omega, decide_false, Bool.false_eq_true, if_false, beq_self_eq_true, if_true, Int.add_zero] at next ⊢
      exact next
    · obtain ⟨m0, w0⟩ := h.u _ (by omega) (by omega) c
      have c2 := usedK_iff.1 c
      have f0 : freeK (K w ((k : Int) + 1)) = false := by unfold freeK; simp; omega
      have d0 : defK (K w ((k : Int) + 1)) = false := by unfold defK; simp; omega
      have w8 : ¬ G (GW ws ((k : Int) + 1)) 8 = 0 := by
        rw [w0 8 (by omega) (by omega)]
        show ¬ K w ((k : Int) + 1) = 0
        omega
      have w8' : (G (GW ws ((k : Int) + 1)) 8 == 0) = false := by simpa using w8
      rw [f0, c, d0] at next
      simp only [m0, w8', show ¬ (0 : Int) > 0 by omega, decide_false, Bool.false_eq_true, if_false, if_true, Int.add_zero] at next ⊢
      rw [check_l11 h s0 _ acts i _ _ _ _ (by omega) (by omega) c 120 N N 8 (by omega) (by omega) (by omega)]
      exact next
    · obtain ⟨m0, w0⟩ := h.d _ (by omega) (by omega) c
      have mp := h.mrk_pos (k := (k : Int) + 1) (by omega) (by omega) c
      have f0 : freeK (K w ((k : Int) + 1)) = false := by rw [c]; rfl
      have u0 : usedK (K w ((k : Int) + 1)) = false := by rw [c]; rfl
      have d0 : defK (K w ((k : Int) + 1)) = true := by rw [c]; rfl
      rw [f0, u0, d0] at next
      simp only [m0, show mrk w ((k : Int) + 1) > 0 by omega, decide_true, if_true, Bool.false_eq_true, if_false, Int.add_zero] at next ⊢
      exact next
theorem check_l6 (h : HI w n fl dl ws ms) (s0 : Int → List Act → Int → List (List Int) → List Int → List Int → Option Bool) (acts : List Act) {i : Int} (hi : 0 ≤ i ∧ i ≤ 1000) {N : Nat} (hN : 1000 < N) : m_ticketlinelaw20_ArenaHolds_l6 N s0 n acts i ws ms w = s0 n acts (i + 1) ws ms w := by
  have hh := h.ai.sz.hi; have hlo := h.ai.sz.lo
  unfold m_ticketlinelaw20_ArenaHolds_l6 m_ticketlinelaw20_ArenaHolds_l6_b m_ticketlinelaw20_ArenaHolds_l7 m_ticketlinelaw20_ArenaHolds_l7_b m_ticketlinelaw20_ArenaHolds_l8 m_ticketlinelaw20_ArenaHolds_l8_b
  have := check_l9 h s0 acts i hi n.toNat N N 0 (by omega) (by omega) hN
  simpa [cnt] using this

theorem HI.alloc (h : HI w n fl dl ws ms) {p : List Int} (hp : PageOK p) (hv : validB p = true) (h0 : G w 1 ≠ 0) : ∃ r, HI (allocW w p) n r dl (ws.set (G w 1).toNat p) ms ∧ 1 ≤ G w 1 ∧ G w 1 ≤ n ∧ G (GW ws (G w 1)) 8 = 0 ∧ G ms (G w 1) = 0 := by
  have hs := h.ai.sz
  obtain ⟨r, e, k0, q1, hi⟩ := h.ai.alloc hp hv h0
  have q2 := h.ai.head
  have hwl := h.wl
  obtain ⟨m0, w0⟩ := h.f _ q1 q2 k0
  have hk : ∀ x, 1 ≤ x → x ≤ n → K (allocW w p) x = if x = G w 1 then G p 8 else K w x := fun x x1 x2 => alloc_K hs q1 q2 x1 x2
  have hlk : ∀ x i, 1 ≤ x → x ≤ n → 8 ≤ i → i < 128 → G (allocW w p) (pl x i) = if x = G w 1 then G p i else G w (pl x i) := fun x i x1 x2 x3 x4 => alloc_link hs q1 q2 x1 x2 x3 x4
  have hu := valid_used hv
  have hu2 := usedK_iff.1 hu
  refine ⟨r, ⟨hi, by rw [List.length_set]; exact hwl, h.ml, fun k k1 k2 kk => ?_, fun k k1 k2 kk => ?_, fun k k1 k2 kk => ?_⟩, q1, q2, w0, m0⟩
  · rw [hk k k1 k2] at kk
    by_cases e1 : k = G w 1
    · rw [if_pos e1] at kk; omega
    · rw [if_neg e1] at kk
      rw [GW_set (by omega) (by omega) (by omega), if_neg e1]
      obtain ⟨a, b⟩ := h.d k k1 k2 kk
      refine ⟨?_, b⟩
      unfold mrk
      rw [hlk k 11 k1 k2 (by omega) (by omega), if_neg e1]
      exact a
  · rw [hk k k1 k2] at kk
    by_cases e1 : k = G w 1
    · rw [if_pos e1] at kk; omega
    · rw [if_neg e1] at kk
      rw [GW_set (by omega) (by omega) (by omega), if_neg e1]
      exact h.f k k1 k2 kk
  · rw [hk k k1 k2] at kk
    rw [GW_set (by omega) (by omega) (by omega)]
    by_cases e1 : k = G w 1
    · rw [if_pos e1]
      exact ⟨by rw [e1]; exact m0, fun j j1 j2 => by rw [hlk k j k1 k2 j1 j2, if_pos e1]⟩
    · rw [if_neg e1] at kk
      rw [if_neg e1]
      obtain ⟨a, b⟩ := h.u k k1 k2 kk
      exact ⟨a, fun j j1 j2 => by rw [hlk k j k1 k2 j1 j2, if_neg e1]; exact b j j1 j2⟩
theorem G_zero (j : Int) : G (List.replicate 128 (0 : Int)) j = 0 := by
  unfold G; rw [List.getD_eq_getElem?_getD, List.getElem?_replicate]; split <;> rfl
theorem HI.release (h : HI w n fl dl ws ms) {q : Int} (hb : busyE w n q true = 0) : HI (freeW w q) n (q :: fl) dl (ws.set q.toNat (List.replicate 128 0)) ms := by
  have hs := h.ai.sz
  obtain ⟨q1, q2, qu, _⟩ := busy_ok hb
  have hwl := h.wl
  obtain ⟨mq, _⟩ := h.u q q1 q2 qu
  have hk : ∀ x, 1 ≤ x → x ≤ n → K (freeW w q) x = if x = q then 0 else K w x := fun x x1 x2 => free_K hs q1 q2 x1 x2
  have hlk : ∀ x i, 1 ≤ x → x ≤ n → 8 ≤ i → i < 128 → G (freeW w q) (pl x i) = if x = q then (if i = 10 then G w 1 else 0) else G w (pl x i) := fun x i x1 x2 x3 x4 => G_free_pl hs q1 q2 x1 x2 x3 x4
  refine ⟨h.ai.release hb, by rw [List.length_set]; exact hwl, h.ml, fun k k1 k2 kk => ?_, fun k k1 k2 kk => ?_, fun k k1 k2 kk => ?_⟩
  · rw [hk k k1 k2] at kk
    by_cases e1 : k = q
    · rw [if_pos e1] at kk; omega
    · rw [if_neg e1] at kk
      rw [GW_set (by omega) (by omega) (by omega), if_neg e1]
      obtain ⟨a, b⟩ := h.d k k1 k2 kk
      refine ⟨?_, b⟩
      unfold mrk
      rw [hlk k 11 k1 k2 (by omega) (by omega), if_neg e1]
      exact a
  · rw [hk k k1 k2] at kk
    rw [GW_set (by omega) (by omega) (by omega)]
    by_cases e1 : k = q
    · rw [if_pos e1]; exact ⟨by rw [e1]; exact mq, G_zero 8⟩
    · rw [if_neg e1] at kk
      rw [if_neg e1]
      exact h.f k k1 k2 kk
  · rw [hk k k1 k2] at kk
    by_cases e1 : k = q
    · rw [if_pos e1] at kk; exact absurd kk (by decide)
    · rw [if_neg e1] at kk
      rw [GW_set (by omega) (by omega) (by omega), if_neg e1]
      obtain ⟨a, b⟩ := h.u k k1 k2 kk
      exact ⟨a, fun j j1 j2 => by rw [hlk k j k1 k2 j1 j2, if_neg e1]; exact b j j1 j2⟩
theorem HI.defer (h : HI w n fl dl ws ms) {q : Int} (hb : busyE w n q true = 0) (hm : G w 4 ≠ 1099511627776) : HI (deferW w q) n fl (q :: dl) (ws.set q.toNat (List.replicate 128 0)) (ms.set q.toNat (G w 4)) := by
  have hs := h.ai.sz
  obtain ⟨q1, q2, qu, _⟩ := busy_ok hb
  have hwl := h.wl
  have hml := h.ml
  have hk : ∀ x, 1 ≤ x → x ≤ n → K (deferW w q) x = if x = q then 255 else K w x := fun x x1 x2 => defer_K hs q1 q2 x1 x2
  have hlk : ∀ x i, 1 ≤ x → x ≤ n → 8 ≤ i → i < 128 → G (deferW w q) (pl x i) = if x = q then (if i = 11 then G w 4 else if i = 10 then G w 2 else if i = 8 then 255 else 0) else G w (pl x i) := fun x i x1 x2 x3 x4 => G_defer_pl hs q1 q2 x1 x2 x3 x4
  refine ⟨h.ai.defer hb hm, by rw [List.length_set]; exact hwl, by rw [List.length_set]; exact hml, fun k k1 k2 kk => ?_, fun k k1 k2 kk => ?_, fun k k1 k2 kk => ?_⟩
  · rw [GW_set (by omega) (by omega) (by omega), G_ms (by omega) (by omega) (by omega)]
    unfold mrk
    rw [hlk k 11 k1 k2 (by omega) (by omega)]
    by_cases e1 : k = q
    · rw [if_pos e1, if_pos e1, if_pos e1, if_pos rfl]; exact ⟨rfl, G_zero 8⟩
    · rw [hk k k1 k2, if_neg e1] at kk
      rw [if_neg e1, if_neg e1, if_neg e1]
      exact h.d k k1 k2 kk
  · rw [hk k k1 k2] at kk
    by_cases e1 : k = q
    · rw [if_pos e1] at kk; omega
    · rw [if_neg e1] at kk
      rw [GW_set (by omega) (by omega) (by omega), G_ms (by omega) (by omega) (by omega), if_neg e1, if_neg e1]
      exact h.f k k1 k2 kk
  · rw [hk k k1 k2] at kk
    by_cases e1 : k = q
    · rw [if_pos e1] at kk; exact absurd kk (by decide)
    · rw [if_neg e1] at kk
      rw [GW_set (by omega) (by omega) (by omega), G_ms (by omega) (by omega) (by omega), if_neg e1, if_neg e1]
      obtain ⟨a, b⟩ := h.u k k1 k2 kk
      exact ⟨a, fun j j1 j2 => by rw [hlk k j k1 k2 j1 j2, if_neg e1]; exact b j j1 j2⟩
theorem HI.write (h : HI w n fl dl ws ms) {q : Int} {p : List Int} (hp : PageOK p) (hv : validB p = true) (hb : busyE w n q false = 0) : HI (putW w q p) n fl dl (ws.set q.toNat p) ms := by
  have hs := h.ai.sz
  obtain ⟨q1, q2, qu, _⟩ := busy_ok hb
  have hwl := h.wl
  have hu := valid_used hv
  have hu2 := usedK_iff.1 hu
  obtain ⟨mq, _⟩ := h.u q q1 q2 qu
  have hk : ∀ x, 1 ≤ x → x ≤ n → K (putW w q p) x = if x = q then G p 8 else K w x := fun x x1 x2 => K_put (hs.fit x1 x2) (hs.fit q1 q2) p
  have hlk : ∀ x i, 1 ≤ x → x ≤ n → 8 ≤ i → i < 128 → G (putW w q p) (pl x i) = if x = q then G p i else G w (pl x i) := fun x i x1 x2 x3 x4 => G_put_pl (hs.fit x1 x2) (hs.fit q1 q2) p x3 x4
  refine ⟨h.ai.write hp hv hb, by rw [List.length_set]; exact hwl, h.ml, fun k k1 k2 kk => ?_, fun k k1 k2 kk => ?_, fun k k1 k2 kk => ?_⟩
  · rw [hk k k1 k2] at kk
    by_cases e1 : k = q
    · rw [if_pos e1] at kk; omega
    · rw [if_neg e1] at kk
      rw [GW_set (by omega) (by omega) (by omega), if_neg e1]
      obtain ⟨a, b⟩ := h.d k k1 k2 kk
      refine ⟨?_, b⟩
      unfold mrk
      rw [hlk k 11 k1 k2 (by omega) (by omega), if_neg e1]
      exact a
  · rw [hk k k1 k2] at kk
    by_cases e1 : k = q
    · rw [if_pos e1] at kk; omega
    · rw [if_neg e1] at kk
      rw [GW_set (by omega) (by omega) (by omega), if_neg e1]
      exact h.f k k1 k2 kk
  · rw [hk k k1 k2] at kk
    rw [GW_set (by omega) (by omega) (by omega)]
    by_cases e1 : k = q
    · rw [if_pos e1]
      exact ⟨by rw [e1]; exact mq, fun j j1 j2 => by rw [hlk k j k1 k2 j1 j2, if_pos e1]⟩
    · rw [if_neg e1] at kk
      rw [if_neg e1]
      obtain ⟨a, b⟩ := h.u k k1 k2 kk
      exact ⟨a, fun j j1 j2 => by rw [hlk k j k1 k2 j1 j2, if_neg e1]; exact b j j1 j2⟩

def pB (ms : List Int) (below k : Int) : Bool := decide (0 < G ms k) && decide (G ms k < below)
def cntP (P : Int → Bool) : Nat → Int
  | 0 => 0
  | k + 1 => cntP P k + (if P ((k : Int) + 1) = true then 1 else 0)
theorem cntP_list (P : Int → Bool) : ∀ (k : Nat) (l : List Int), l.Nodup → (∀ p : Int, p ∈ l ↔ (1 ≤ p ∧ p ≤ k ∧ P p = true)) → (l.length : Int) = cntP P k := by
  intro k
  induction k with
  | zero =>
    intro l _ h
    cases l with
    | nil => rfl
    | cons p r => have := (h p).1 (List.mem_cons_self ..); omega
  | succ k ih =>
    intro l hn h
    simp only [cntP]
    by_cases e : P ((k : Int) + 1) = true
    · rw [if_pos e]
      have hm : ((k : Int) + 1) ∈ l := (h _).2 ⟨by omega, by omega, e⟩
      have hl := List.length_erase_of_mem hm
      have := ih (l.erase ((k : Int) + 1)) (hn.erase _) (fun p => by
        rw [hn.mem_erase_iff, h p]
        constructor
        · rintro ⟨a, b, c, d⟩; exact ⟨b, by omega, d⟩
        · rintro ⟨a, b, c⟩; exact ⟨by omega, a, by omega, c⟩)
      have hpos := List.length_pos_of_mem hm
      omega
    · rw [if_neg e]
      have := ih l hn (fun p => by
        rw [h p]
        constructor
        · rintro ⟨a, b, c⟩
          refine ⟨a, ?_, c⟩
          by_cases e2 : p = (k : Int) + 1
          · subst e2; exact absurd c e
          · omega
        · rintro ⟨a, b, c⟩; exact ⟨a, by omega, c⟩)
      omega
theorem marks_l17 (s0 : Int → List Act → Int → List (List Int) → List Int → List Int → Option Bool) (acts : List Act) (i : Int) (ms0 : List Int) (n0 : 1 ≤ n) (n1 : n ≤ 511) (hml : (ms0.length : Int) = n + 1) (below a1 b1 c1 : Int) (d1 e1 : ByteArray) (f1 : List Pr) (g1 : List Int) (h1 : List Sp) (v : List Int) :
    ∀ (m fuel N k : Nat) (c : Int) (ms : List Int), (k : Int) + m = n → m < fuel → ms.length = ms0.length → (∀ j : Int, 0 ≤ j → G ms j = if 1 ≤ j ∧ j ≤ k ∧ pB ms0 below j = true then 0 else G ms0 j) → -1000 ≤ c → c ≤ 1000 → c + cntP (pB ms0 below) k = cntP (pB ms0 below) n.toNat →
    ∃ ms', ms'.length = ms0.length ∧ (∀ j : Int, 0 ≤ j → G ms' j = if 1 ≤ j ∧ j ≤ n ∧ pB ms0 below j = true then 0 else G ms0 j) ∧
      m_ticketlinelaw20_ArenaHolds_l17 N s0 fuel n acts i c ((k : Int) + 1) ws ms a1 below b1 c1 d1 e1 f1 g1 h1 v = m_ticketlinelaw20_ArenaHolds_l6 N s0 n acts i ws ms' v := by
  have rng : ∀ k : Nat, 0 ≤ cntP (pB ms0 below) k ∧ cntP (pB ms0 below) k ≤ k := by
    intro k
    induction k with
    | zero => simp [cntP]
    | succ k ih => simp only [cntP]; split <;> omega
  intro m
  induction m with
  | zero =>
    intro fuel N k c ms hk hf hl hg c0 c2 hc
    obtain ⟨fuel, rfl⟩ : ∃ i, fuel = i + 1 := ⟨fuel - 1, by omega⟩
    have e : n.toNat = k := by omega
    rw [e] at hc
    have ec : c = 0 := by omega
    subst ec
    refine ⟨ms, hl, fun j hj => by rw [hg j hj]; congr 1; have : (k : Int) = n := by omega
                                   rw [this], ?_⟩
    simp only [m_ticketlinelaw20_ArenaHolds_l17, m_ticketlinelaw20_ArenaHolds_l17_b, show ¬ (k : Int) + 1 ≤ n by omega, decide_false, Bool.false_eq_true, if_false, bne_self_eq_false]
  | succ m ih =>
    intro fuel N k c ms hk hf hl hg c0 c2 hc
    obtain ⟨fuel, rfl⟩ : ∃ i, fuel = i + 1 := ⟨fuel - 1, by omega⟩
    have hgk : G ms ((k : Int) + 1) = G ms0 ((k : Int) + 1) := by rw [hg _ (by omega), if_neg (by omega)]
    have r0 := rng n.toNat
    have rk := rng (k + 1)
    have hcn : cntP (pB ms0 below) (k + 1) = cntP (pB ms0 below) k + (if pB ms0 below ((k : Int) + 1) = true then 1 else 0) := rfl
    have e0 : ((k + 1 : Nat) : Int) = (k : Int) + 1 := by omega
    simp only [m_ticketlinelaw20_ArenaHolds_l17, m_ticketlinelaw20_ArenaHolds_l17_b, show (k : Int) + 1 ≤ n by omega, decide_true, if_true, show (0 : Int) ≤ (k : Int) + 1 by omega, show (k : Int) + 1 < (ms.length : Int) by omega, rd_G, hgk, m_ticketlinelaw20_ArenaHolds_l18, m_ticketlinelaw20_ArenaHolds_l18_b]
    rw [wI (x := c - 1) (by omega) (by omega), wI (x := (k : Int) + 1 + 1) (by omega) (by omega)]
    by_cases hP : pB ms0 below ((k : Int) + 1) = true
    · have hP2 := hP
      unfold pB at hP2
      simp only [Bool.and_eq_true, decide_eq_true_eq] at hP2
      rw [if_pos hP] at hcn
      obtain ⟨ms', a, b, d⟩ := ih fuel N (k + 1) (c - 1) (ms.set ((k : Int) + 1).toNat 0) (by omega) (by omega) (by rw [List.length_set]; exact hl) (fun j hj => by
        rw [G_ms (by omega) (by omega) hj, hg j hj]
        by_cases e : j = (k : Int) + 1
        · subst e; rw [if_pos rfl, if_pos ⟨by omega, by omega, hP⟩]
        · rw [if_neg e]
          by_cases e2 : 1 ≤ j ∧ j ≤ k ∧ pB ms0 below j = true
          · rw [if_pos e2, if_pos ⟨e2.1, by omega, e2.2.2⟩]
          · rw [if_neg e2, if_neg (fun e3 => e2 ⟨e3.1, by omega, e3.2.2⟩)]) (by omega) (by omega) (by omega)
      rw [e0] at d
      refine ⟨ms', a, b, ?_⟩
      simp only [show G ms0 ((k : Int) + 1) > 0 from hP2.1, hP2.2, decide_true, if_true]
      exact d
    · rw [if_neg hP] at hcn
      obtain ⟨ms', a, b, d⟩ := ih fuel N (k + 1) c ms (by omega) (by omega) hl (fun j hj => by
        rw [hg j hj]
        by_cases e2 : 1 ≤ j ∧ j ≤ k ∧ pB ms0 below j = true
        · rw [if_pos e2, if_pos ⟨e2.1, by omega, e2.2.2⟩]
        · rw [if_neg e2, if_neg (fun e3 => by
            by_cases e4 : j = (k : Int) + 1
            · rw [e4] at e3; exact hP e3.2.2
            · exact e2 ⟨e3.1, by omega, e3.2.2⟩)]) (by omega) (by omega) (by omega)
      rw [e0] at d
      refine ⟨ms', a, b, ?_⟩
      by_cases q1 : G ms0 ((k : Int) + 1) > 0
      · have q2 : ¬ G ms0 ((k : Int) + 1) < below := fun q2 => hP (by unfold pB; simp [q2]; omega)
        simp only [q1, q2, decide_true, decide_false, if_true, Bool.false_eq_true, if_false]
        exact d
      · simp only [q1, decide_false, Bool.false_eq_true, if_false]
        exact d
theorem HI.reclaim (h : HI w n fl dl ws ms) {below : Int} {ks fs v : List Int} (hd : dl = ks ++ fs) (hk : ∀ q ∈ ks, below ≤ mrk w q) (hf : ∀ q ∈ fs, mrk w q < below) (hv : AI v n (fs.reverse ++ fl) ks)
    (hu : ∀ x i : Int, 1 ≤ x → x ≤ n → usedK (K w x) = true → 8 ≤ i → i < 128 → G v (pl x i) = G w (pl x i)) (hm : ∀ x, 1 ≤ x → x ≤ n → x ∉ fs → mrk v x = mrk w x) {ms' : List Int} (hl : ms'.length = ms.length) (hg : ∀ j : Int, 0 ≤ j → G ms' j = if 1 ≤ j ∧ j ≤ n ∧ pB ms below j = true then 0 else G ms j) :
    HI v n (fs.reverse ++ fl) ks ws ms' := by
  have hdm := h.ai.defd.mem
  rw [hd] at hdm
  have hnd := h.ai.dnd
  rw [hd] at hnd
  have hnd := List.nodup_append.1 hnd
  refine ⟨hv, h.wl, by rw [hl]; exact h.ml, fun k k1 k2 kk => ?_, fun k k1 k2 kk => ?_, fun k k1 k2 kk => ?_⟩
  · have hin := hv.dall k k1 k2 kk
    have hw := (hdm k (List.mem_append_left _ hin)).2.2
    obtain ⟨a, b⟩ := h.d k k1 k2 hw
    have hP : pB ms below k = false := by
      unfold pB
      rw [a]
      have := hk k hin
      simp
      omega
    rw [hg k (by omega), if_neg (by rw [hP]; simp), hm k k1 k2 (fun hx => hnd.2.2 k hin k hx rfl)]
    exact ⟨a, b⟩
  · have hin := hv.fall k k1 k2 kk
    rw [hg k (by omega)]
    rcases List.mem_append.1 hin with hin | hin
    · have hin := List.mem_reverse.1 hin
      have hw := (hdm k (List.mem_append_right _ hin)).2.2
      obtain ⟨a, b⟩ := h.d k k1 k2 hw
      have hp := h.mrk_pos k1 k2 hw
      have hP : pB ms below k = true := by
        unfold pB
        rw [a]
        have := hf k hin
        simp
        omega
      rw [if_pos ⟨k1, k2, hP⟩]
      exact ⟨rfl, b⟩
    · obtain ⟨a, b⟩ := h.f k k1 k2 (h.ai.free.mem k hin).2.2
      split
      · exact ⟨rfl, b⟩
      · exact ⟨a, b⟩
  · have hw : usedK (K w k) = true := by
      rcases h.ai.kinds k k1 k2 with c | c | c
      · have := hv.free.mem k (List.mem_append_right _ (h.ai.fall k k1 k2 c))
        rw [this.2.2] at kk
        exact absurd kk (by decide)
      · exact c
      · have := h.ai.dall k k1 k2 c
        rw [hd] at this
        rcases List.mem_append.1 this with hx | hx
        · have := (hv.defd.mem k hx).2.2
          rw [this] at kk
          exact absurd kk (by decide)
        · have := hv.free.mem k (List.mem_append_left _ (List.mem_reverse.2 hx))
          rw [this.2.2] at kk
          exact absurd kk (by decide)
    obtain ⟨a, b⟩ := h.u k k1 k2 hw
    refine ⟨?_, fun j j1 j2 => by rw [hu k j k1 k2 hw j1 j2]; exact b j j1 j2⟩
    rw [hg k (by omega)]
    split
    · rfl
    · exact a
theorem holds_l1 (h : HI w n fl dl ws ms) (s0 : Int → List Act → Int → List (List Int) → List Int → List Int → Option Bool) (acts : List Act) {i : Int} (hi : 0 ≤ i ∧ i ≤ 1000) {N : Nat} (hN : 1000 < N) (what q pa pb : Int) (pc pd : ByteArray) (pe : List Pr) (pf : List Int) (pg : List Sp) {p : List Int} (hp : PageOK p)
    (hs0 : ∀ w' fl' dl' ws' ms', HI w' n fl' dl' ws' ms' → s0 n acts (i + 1) ws' ms' w' = some true) : m_ticketlinelaw20_ArenaHolds_l1 N s0 n acts i ws ms what q pa pb pc pd pe pf pg p w = some true := by
  have hs := h.ai.sz
  have hh := hs.hi; have hlo := hs.lo
  have hwl := h.wl
  have hml := h.ml
  have fin : ∀ {w' fl' dl' ws' ms'}, HI w' n fl' dl' ws' ms' → m_ticketlinelaw20_ArenaHolds_l6 N s0 n acts i ws' ms' w' = some true := fun {w' fl' dl' ws' ms'} h' => by
    rw [check_l6 h' s0 acts hi hN]; exact hs0 _ _ _ _ _ h'
  have key : ∀ b : Bool, b = (decide (1 ≤ q) && decide (q ≤ n)) → m_ticketlinelaw20_ArenaHolds_l3 N s0 n acts i b what ws ms what q pa pb pc pd pe pf pg p w = some true := by
    intro b hb
    have there : ∀ {root}, busyE w n q root = 0 → b = true := fun {root} hbz => by
      obtain ⟨x, y, _, _⟩ := busy_ok hbz
      rw [hb]; simp [x, y]
    unfold m_ticketlinelaw20_ArenaHolds_l3 m_ticketlinelaw20_ArenaHolds_l3_b
    by_cases c0 : what = 0
    · rw [if_pos (by simpa using c0)]
      have ha := arena_Alloc hs hp h.ai.head
      rw [ha]
      simp only [Option.bind_some]
      cases hv : validB p with
      | false =>
        simp only [if_true]
        unfold m_ticketlinelaw20_ArenaHolds_l4 m_ticketlinelaw20_ArenaHolds_l4_b m_ticketlinelaw20_ArenaHolds_l5 m_ticketlinelaw20_ArenaHolds_l5_b
        simp [fin h]
      | true =>
        simp only [Bool.true_eq_false, if_false]
        by_cases e : G w 1 = 0
        · simp only [if_pos e]
          unfold m_ticketlinelaw20_ArenaHolds_l4 m_ticketlinelaw20_ArenaHolds_l4_b m_ticketlinelaw20_ArenaHolds_l5 m_ticketlinelaw20_ArenaHolds_l5_b
          simp [fin h]
        · obtain ⟨r, hi', g1', g2', w0, m0⟩ := h.alloc hp hv e
          simp only [if_neg e]
          have w0' : rd (.int .u64) (rd (.arr 128 (.int .u64)) ws (G w 1)) 8 = 0 := w0
          unfold m_ticketlinelaw20_ArenaHolds_l4 m_ticketlinelaw20_ArenaHolds_l4_b m_ticketlinelaw20_ArenaHolds_l5 m_ticketlinelaw20_ArenaHolds_l5_b
          simp only [beq_self_eq_true, if_true, show ¬ G w 1 < 1 by omega, show ¬ G w 1 > n by omega, decide_false, Bool.false_eq_true, if_false, show 0 ≤ G w 1 by omega, show G w 1 < (ws.length : Int) by omega, show G w 1 < (ms.length : Int) by omega, w0', rd_G, m0, bne_self_eq_false]
          exact fin hi'
    rw [if_neg (by simpa using c0)]
    by_cases c1 : what = 1
    · rw [if_pos (by simpa using c1), arena_Release hs]
      by_cases e : busyE w n q true = 0
      · obtain ⟨x, y, _, _⟩ := busy_ok e
        simp only [if_pos e, Option.bind_some, beq_self_eq_true, if_true, there e, Bool.not_true, Bool.false_eq_true, if_false]
        unfold m_ticketlinelaw20_ArenaHolds_l12 m_ticketlinelaw20_ArenaHolds_l12_b
        simp only [show 0 ≤ q by omega, if_true, show q < (ws.length : Int) by omega]
        exact fin (h.release e)
      · have e' : (busyE w n q true == 0) = false := by simpa using e
        simp only [if_neg e, Option.bind_some, e', Bool.false_eq_true, if_false]
        exact fin h
    rw [if_neg (by simpa using c1)]
    by_cases c2 : what = 2
    · rw [if_pos (by simpa using c2), arena_Defer hs q h.ai.m2]
      unfold m_ticketlinelaw20_ArenaHolds_l13 m_ticketlinelaw20_ArenaHolds_l13_b
      by_cases e : busyE w n q true = 0
      · obtain ⟨x, y, _, _⟩ := busy_ok e
        by_cases e2 : G w 4 = 1099511627776
        · simp only [if_pos e, if_pos e2, Option.bind_some]
          rw [if_neg (by decide)]
          exact fin h
        · have hm1 := h.ai.m1
          simp only [if_pos e, if_neg e2, Option.bind_some, beq_self_eq_true, if_true, there e, Bool.not_true, Bool.false_eq_true, if_false, show ¬ G w 4 < 1 by omega, decide_false]
          unfold m_ticketlinelaw20_ArenaHolds_l14 m_ticketlinelaw20_ArenaHolds_l14_b
          simp only [show 0 ≤ q by omega, if_true, show q < (ws.length : Int) by omega, show q < (ms.length : Int) by omega]
          exact fin (h.defer e e2)
      · have e' : (busyE w n q true == 0) = false := by simpa using e
        simp only [if_neg e, Option.bind_some, e', Bool.false_eq_true, if_false]
        exact fin h
    rw [if_neg (by simpa using c2)]
    by_cases c3 : what = 3
    · rw [if_pos (by simpa using c3)]
      unfold m_ticketlinelaw20_ArenaHolds_l15 m_ticketlinelaw20_ArenaHolds_l15_b
      by_cases e1 : q < 0
      · have : m_arena_Arena_Reclaim (AR w) q = some (0, 2, AR w) := by simp [m_arena_Arena_Reclaim, m_arena_Arena_Reclaim_a, e1]
        simp only [this, Option.bind_some]
        rw [if_neg (by decide)]
        exact fin h
      by_cases e2 : q > 1099511627776
      · have : m_arena_Arena_Reclaim (AR w) q = some (0, 2, AR w) := by simp [m_arena_Arena_Reclaim, m_arena_Arena_Reclaim_a, e1, e2]
        simp only [this, Option.bind_some]
        rw [if_neg (by decide)]
        exact fin h
      obtain ⟨ks, fs, v, hd, hk, hf, h1, _, hv, hu, hm⟩ := arena_Reclaim h.ai (below := q) (by omega) (by omega)
      simp only [h1, Option.bind_some, beq_self_eq_true, if_true]
      unfold m_ticketlinelaw20_ArenaHolds_l16 m_ticketlinelaw20_ArenaHolds_l16_b
      have hdm := h.ai.defd.mem
      have hnd := h.ai.dnd
      rw [hd] at hdm hnd
      have hnd := List.nodup_append.1 hnd
      have hcnt := cntP_list (pB ms q) n.toNat fs hnd.2.1 (fun x => by
        constructor
        · intro hx
          obtain ⟨x1, x2, x3⟩ := hdm x (List.mem_append_right _ hx)
          refine ⟨x1, by omega, ?_⟩
          unfold pB
          rw [(h.d x x1 x2 x3).1]
          have := h.mrk_pos x1 x2 x3
          have := hf x hx
          simp
          omega
        · rintro ⟨x1, x2, x3⟩
          have x2 : x ≤ n := by omega
          unfold pB at x3
          simp only [Bool.and_eq_true, decide_eq_true_eq] at x3
          rcases h.ai.kinds x x1 x2 with c | c | c
          · have := (h.f x x1 x2 c).1; omega
          · have := (h.u x x1 x2 c).1; omega
          · have hin := h.ai.dall x x1 x2 c
            rw [hd] at hin
            have e := (h.d x x1 x2 c).1
            rcases List.mem_append.1 hin with hx | hx
            · have := hk x hx; omega
            · exact hx)
      have hfl : fs.length ≤ 511 := by
        have := h.ai.len_le.2
        rw [hd] at this
        simp at this
        omega
      obtain ⟨ms', m1, m2, m3⟩ := marks_l17 (n := n) (ws := ws) s0 acts i ms hlo hh hml q what pa pb pc pd pe pf pg v n.toNat N N 0 (fs.length : Int) ms (by omega) (by omega) rfl (fun j hj => by rw [if_neg (by omega)]) (by omega) (by omega) (by rw [← hcnt]; simp [cntP])
      refine Eq.trans ?_ (m3.trans (fin (h.reclaim hd hk hf hv hu hm m1 m2)))
      rfl
    rw [if_neg (by simpa using c3)]
    by_cases c4 : what = 4
    · rw [if_pos (by simpa using c4), arena_Write hs q hp]
      by_cases e : busyE w n q false = 0
      · obtain ⟨x, y, _, _⟩ := busy_ok e
        by_cases e2 : validB p = true
        · simp only [if_pos e, if_pos e2, Option.bind_some, beq_self_eq_true, if_true, there e, Bool.not_true, Bool.false_eq_true, if_false]
          unfold m_ticketlinelaw20_ArenaHolds_l19 m_ticketlinelaw20_ArenaHolds_l19_b
          simp only [show 0 ≤ q by omega, if_true, show q < (ws.length : Int) by omega]
          exact fin (h.write hp e2 e)
        · simp only [if_pos e, if_neg e2, Option.bind_some]
          rw [if_neg (by decide)]
          exact fin h
      · have e' : (busyE w n q false == 0) = false := by simpa using e
        simp only [if_neg e, Option.bind_some, e', Bool.false_eq_true, if_false]
        exact fin h
    rw [if_neg (by simpa using c4)]
    exact fin h
  unfold m_ticketlinelaw20_ArenaHolds_l1 m_ticketlinelaw20_ArenaHolds_l1_b m_ticketlinelaw20_ArenaHolds_l2 m_ticketlinelaw20_ArenaHolds_l2_b
  by_cases c : q ≥ 1
  · rw [if_pos (by simpa using c)]
    exact key _ (by simp [show 1 ≤ q from c])
  · rw [if_neg (by simpa using c)]
    exact key _ (by simp [show ¬ 1 ≤ q from c])
end
theorem holds_l0 {n : Int} (l : List Act) (hl : ∀ a, a ∈ l → PlnOK a.2.2.1) (hl2 : l.length ≤ 24) : ∀ (m fuel N : Nat) (i : Int) (w fl dl : List Int) (ws : List (List Int)) (ms : List Int), i + m = l.length → 0 ≤ i → m < fuel → 1000 < N → HI w n fl dl ws ms →
    m_ticketlinelaw20_ArenaHolds_l0 N fuel n l i ws ms w = some true := by
  intro m
  induction m with
  | zero =>
    intro fuel N i w fl dl ws ms hm hi hf hN h
    obtain ⟨fuel, rfl⟩ : ∃ k, fuel = k + 1 := ⟨fuel - 1, by omega⟩
    simp [m_ticketlinelaw20_ArenaHolds_l0, m_ticketlinelaw20_ArenaHolds_l0_b, show ¬ i < (l.length : Int) by omega, known20]
  | succ m ih =>
    intro fuel N i w fl dl ws ms hm hi hf hN h
    obtain ⟨fuel, rfl⟩ : ∃ k, fuel = k + 1 := ⟨fuel - 1, by omega⟩
    have hlt : i < (l.length : Int) := by omega
    have hmem := rd_act hi hlt
    obtain ⟨p, b, hp, hpo, _⟩ := plan_page (hl _ hmem)
    have next := fun w' fl' dl' ws' ms' (h' : HI w' n fl' dl' ws' ms') => ih fuel N (i + 1) w' fl' dl' ws' ms' (by omega) (by omega) (by omega) hN h'
    simp only [m_ticketlinelaw20_ArenaHolds_l0, m_ticketlinelaw20_ArenaHolds_l0_b, hlt, decide_true, if_true, hi, hp, Option.bind_some]
    cases b with
    | false =>
      simp only [Bool.not_false, if_true]
      exact holds_l1 h _ l ⟨hi, by omega⟩ hN _ _ _ _ _ _ _ _ _ page_zero next
    | true =>
      simp only [Bool.not_true, Bool.false_eq_true, if_false]
      exact holds_l1 h _ l ⟨hi, by omega⟩ hN _ _ _ _ _ _ _ _ _ hpo next
theorem arenaHolds_true (pages : Int) {l : List Act} (hl : ∀ a, a ∈ l → PlnOK a.2.2.1) : m_ticketlinelaw20_ArenaHolds pages l = some true := by
  unfold m_ticketlinelaw20_ArenaHolds m_ticketlinelaw20_ArenaHolds_a
  by_cases h1 : pages < 1
  · simp [h1, known20]
  by_cases h2 : pages > 6
  · simp [h1, h2, known20]
  by_cases h3 : (l.length : Int) > 24
  · simp [h1, h2, h3, known20]
  rw [if_neg (by simpa using h1), if_neg (by simpa using h2), if_neg (by simpa using h3)]
  have w1 := wI (x := 128 * pages) (by omega) (by omega)
  have w2 := wI (x := 16 + 128 * pages) (by omega) (by omega)
  have w3 := wI (x := pages + 1) (by omega) (by omega)
  have hlen : (List.replicate (16 + 128 * pages).toNat (0 : Int)).length = (16 + 128 * pages).toNat := rep_len _
  have f1 : fits (pages + 1).toNat 1024 := by unfold fits; omega
  have f2 : fits (pages + 1).toNat 8 := by unfold fits; omega
  simp only [w1, w2, w3, law20_memory (n := 16 + 128 * pages) (by omega) (by omega), Option.bind_some]
  rw [arena_Format (by omega) (by omega), if_neg (by omega)]
  simp only [Option.bind_some, bne_self_eq_false, Bool.false_eq_true, if_false, show 0 ≤ pages + 1 by omega, if_true, Int.le_refl, f1, f2]
  obtain ⟨fl, hfl⟩ := fmtW_AI (w := List.replicate (16 + 128 * pages).toNat 0) (n := pages) (by omega) (by omega) (by omega) (by omega) (U64_rep _)
  have gz : ∀ k : Int, G (List.replicate (pages + 1).toNat (0 : Int)) k = 0 := fun k => by
    unfold G; rw [List.getD_eq_getElem?_getD, List.getElem?_replicate]; split <;> rfl
  have gw : ∀ k : Int, G (GW (List.replicate (pages + 1).toNat (List.replicate 128 (0 : Int))) k) 8 = 0 := fun k => by
    have : GW (List.replicate (pages + 1).toNat (List.replicate 128 (0 : Int))) k = List.replicate 128 0 := by
      unfold GW rd
      rw [List.getD_eq_getElem?_getD, List.getElem?_replicate]
      split <;> rfl
    rw [this]; exact G_zero 8
  have hk : ∀ k, 1 ≤ k → k ≤ pages → K (fmtW (List.replicate (16 + 128 * pages).toNat 0) pages) k = 0 := fun k a b => by
    rcases hfl.kinds k a b with c | c | c
    · exact c
    · unfold K at c ⊢
      rw [G_fmtW (by omega) (by omega) (by unfold pl; omega), if_neg (by unfold pl; omega), if_neg (by unfold pl; omega), if_neg (by unfold pl; omega), if_neg (by unfold pl; omega), if_pos (by unfold pl; omega)]
    · have := hfl.dall k a b c; cases this
  refine holds_l0 l hl (by omega) l.length FUEL FUEL 0 _ fl [] _ _ (by omega) (by omega) (by have := FUEL_big; omega) (by have := FUEL_big; omega) ⟨hfl, by simp; omega, by simp; omega, fun k a b c => ?_, fun k a b c => ⟨gz k, gw k⟩, fun k a b c => ?_⟩
  · rw [hk k a b] at c; omega
  · rw [hk k a b] at c; exact absurd c (by decide)
end Go.Ev.L
