/- Arenas: any calls, one after the other, give what the reference's give. -/
import Derived.Test.YtbmdoalneeeonaaA7
import Derived.Test.YtbmdoalneeeonaaPgB
set_option linter.unusedVariables false
set_option linter.unusedSimpArgs false
namespace Go.Ev.L
open Go Go.Ev Go.Ev.M

theorem aref_used {w : List Int} {n p : Int} (hs : Sz w n) : m_ticketlineref20_Arena_used (w, ()) p = some (decide (1 ≤ p) && (decide (p ≤ n) && usedK (K w p)), (w, ())) := by
  have hh := hs.hi
  unfold m_ticketlineref20_Arena_used
  by_cases e1 : 1 ≤ p
  · by_cases e2 : p ≤ n
    · obtain ⟨x1, x2, x3⟩ := (hs.fit e1 e2).at (i := 8) (by omega) (by omega)
      have eK : G w (pl p 8) = K w p := rfl
      simp only [show p ≥ 1 from e1, e2, decide_true, if_true, ref_Pages hs, Option.bind_some, ref_at (p := p) (i := 8) (by omega) (by omega) (by omega) (by omega), show 0 ≤ pl p 8 by omega, x2, rd_G, eK, Bool.true_and, usedK, e1]
      by_cases e3 : K w p ≥ 1
      · simp [e3, show 1 ≤ K w p from e3]
      · simp [e3, show ¬ 1 ≤ K w p from e3]
    · simp only [show p ≥ 1 from e1, e1, decide_true, if_true, ref_Pages hs, Option.bind_some, e2, decide_false, Bool.false_eq_true, if_false, Bool.true_and, Bool.false_and]
  · simp [e1, show ¬ p ≥ 1 from e1]
theorem aref_bad {w : List Int} {n p : Int} (hs : Sz w n) : m_ticketlineref20_Arena_bad (w, ()) p = some (busyE w n p false, (w, ())) := by
  unfold m_ticketlineref20_Arena_bad busyE
  by_cases e1 : p < 1
  · simp [e1]
  by_cases e2 : n < p
  · simp [e1, e2, ref_Pages hs]
  have hne : ¬ (p < 1 ∨ n < p) := by omega
  simp only [e1, decide_false, Bool.false_eq_true, if_false, ref_Pages hs, Option.bind_some, show ¬ p > n from e2, aref_used hs, show 1 ≤ p by omega, show p ≤ n by omega, decide_true, Bool.true_and]
  cases usedK (K w p) <;> simp
theorem busy_true {w : List Int} {n p : Int} : busyE w n p true = if busyE w n p false = 0 then (if G w 3 = p then 11 else 0) else busyE w n p false := by
  unfold busyE
  by_cases e1 : p < 1 ∨ n < p
  · rw [if_pos e1, if_pos e1, if_neg (by omega)]
  · rw [if_neg e1, if_neg e1]
    by_cases e2 : usedK (K w p) = false
    · rw [if_pos e2, if_pos e2, if_neg (by omega)]
    · rw [if_neg e2, if_neg e2]
      simp
theorem aref_Alloc {w p : List Int} {n : Int} (hs : Sz w n) (hp : PageOK p) (hf : G w 1 ≤ n) : m_ticketlineref20_Arena_Alloc (w, ()) p =
    some (if validB p = false then ((0 : Int), (12 : Int), (w, ())) else if G w 1 = 0 then ((0 : Int), (7 : Int), (w, ())) else (G w 1, (0 : Int), (allocW w p, ()))) := by
  have hb := hs.big; have hh := hs.hi; have hg := hs.u.G 1
  unfold m_ticketlineref20_Arena_Alloc
  rw [ref_Valid hp]
  simp only [Option.bind_some]
  cases hv : validB p with
  | false => simp
  | true =>
    simp only [Bool.not_true, Bool.false_eq_true, if_false, show (1 : Int) < w.length by omega, if_true, rd_G, Bool.true_eq_false]
    rw [wI (x := G w 1) (by omega) (by omega)]
    by_cases e : G w 1 = 0
    · simp [e]
    have hfit := hs.fit (p := G w 1) (by omega) hf
    obtain ⟨a, b, c⟩ := hfit.at (i := 10) (by omega) (by omega)
    have e2 : m_ticketlineref20_Arena_put (w.set 1 (G w (pl (G w 1) 10)), ()) (G w 1) p = some (allocW w p, ()) := aref_put (hfit.wr 1 _) p
    rw [if_neg (by simpa using e), if_neg e]
    simp only [ref_at (p := G w 1) (i := 10) (by omega) (by omega) (by omega) (by omega), Option.bind_some, show 0 ≤ pl (G w 1) 10 by omega, if_true, b, e2]
theorem aref_Release {w : List Int} {n p : Int} (hs : Sz w n) : m_ticketlineref20_Arena_Release (w, ()) p = some (if busyE w n p true = 0 then ((0 : Int), (freeW w p, ())) else (busyE w n p true, (w, ()))) := by
  have hb := hs.big; have hh := hs.hi
  unfold m_ticketlineref20_Arena_Release
  rw [aref_bad hs, busy_true]
  simp only [Option.bind_some]
  by_cases e : busyE w n p false = 0
  · obtain ⟨q1, q2, _, _⟩ := busy_ok e
    simp only [e, bne_self_eq_false, Bool.false_eq_true, if_false, if_true, show (3 : Int) < w.length by omega, rd_G]
    rw [wU (x := p) (by omega) (by omega)]
    by_cases e2 : G w 3 = p
    · simp [e2]
    · have e3 : (G w 3 == p) = false := by simpa using e2
      simp only [e3, Bool.false_eq_true, if_false, if_neg e2, aref_free hs q1 q2, Option.bind_some, if_true]
  · rw [if_pos (by simpa using e), if_neg e, if_neg e]
theorem aref_Defer {w : List Int} {n p : Int} (hs : Sz w n) (hm : G w 4 ≤ 1099511627776) : m_ticketlineref20_Arena_Defer (w, ()) p = some (if busyE w n p true = 0 then (if G w 4 = 1099511627776 then ((0 : Int), (17 : Int), (w, ())) else (G w 4, (0 : Int), (deferW w p, ()))) else ((0 : Int), busyE w n p true, (w, ()))) := by
  have hb := hs.big; have hh := hs.hi; have hg := hs.u.G 4
  unfold m_ticketlineref20_Arena_Defer
  rw [aref_bad hs, busy_true]
  simp only [Option.bind_some]
  by_cases e : busyE w n p false = 0
  · obtain ⟨q1, q2, _, _⟩ := busy_ok e
    simp only [e, bne_self_eq_false, Bool.false_eq_true, if_false, if_true, show (3 : Int) < w.length by omega, rd_G]
    rw [wU (x := p) (by omega) (by omega)]
    by_cases e2 : G w 3 = p
    · simp [e2]
    · have e5 : (G w 3 == p) = false := by simpa using e2
      simp only [e5, Bool.false_eq_true, if_false, if_neg e2, show (4 : Int) < w.length by omega, if_true]
      by_cases e3 : G w 4 = 1099511627776
      · simp [e3]
      · have e6 : (G w 4 == 1099511627776) = false := by simpa using e3
        have e4 : m_ticketlineref20_Arena_put (w, ()) p ((((List.replicate 128 (0 : Int)).set 8 255).set 10 (G w 2)).set 11 (G w 4)) = some (putW w p (defP (G w 2) (G w 4)), ()) := aref_put (hs.fit q1 q2) _
        simp only [e6, Bool.false_eq_true, if_false, if_neg e3, show (2 : Int) < w.length by omega, if_true, e4, Option.bind_some, putW_length, List.length_set, show (4 : Int) < w.length by omega]
        rw [wU (x := G w 4 + 1) (by omega) (by omega), wI (x := G w 4) (by omega) (by omega)]
        rfl
  · rw [if_pos (by simpa using e), if_neg e, if_neg e]
theorem aref_Write {w p : List Int} {n q : Int} (hs : Sz w n) (hp : PageOK p) : m_ticketlineref20_Arena_Write (w, ()) q p = some (if busyE w n q false = 0 then (if validB p = true then ((0 : Int), (putW w q p, ())) else ((12 : Int), (w, ()))) else (busyE w n q false, (w, ()))) := by
  unfold m_ticketlineref20_Arena_Write
  rw [aref_bad hs]
  simp only [Option.bind_some]
  by_cases e : busyE w n q false = 0
  · obtain ⟨q1, q2, _, _⟩ := busy_ok e
    simp only [e, bne_self_eq_false, Bool.false_eq_true, if_false, if_true, ref_Valid hp, Option.bind_some]
    cases hv : validB p with
    | false => simp
    | true => simp only [Bool.not_true, Bool.false_eq_true, if_false, if_true, aref_put (hs.fit q1 q2), Option.bind_some]
  · rw [if_pos (by simpa using e), if_neg e]
theorem aref_SetRoot {w : List Int} {n p : Int} (hs : Sz w n) : m_ticketlineref20_Arena_SetRoot (w, ()) p = some (if p ≠ 0 ∧ busyE w n p false ≠ 0 then (busyE w n p false, (w, ())) else ((0 : Int), (wr w 3 p, ()))) := by
  have hb := hs.big; have hh := hs.hi
  unfold m_ticketlineref20_Arena_SetRoot
  by_cases e : p = 0
  · subst e
    simp [show (3 : Int) < w.length by omega, wU (x := 0) (by omega) (by omega), wr]
  · rw [if_pos (by simpa using e), aref_bad hs]
    simp only [Option.bind_some]
    by_cases e2 : busyE w n p false = 0
    · obtain ⟨q1, q2, _, _⟩ := busy_ok e2
      have e3 : (busyE w n p false != 0) = false := by simp [e2]
      have e4 : ¬ (p ≠ 0 ∧ busyE w n p false ≠ 0) := by simp [e2]
      rw [if_neg e4]
      simp only [e3, Bool.false_eq_true, if_false, show (3 : Int) < w.length by omega, if_true]
      rw [wU (x := p) (by omega) (by omega)]
      rfl
    · rw [if_pos (by simpa using e2), if_pos ⟨e, e2⟩]

theorem law20_defers {w : List Int} {p a e b c : Int} {v : List Int} (h : m_arena_Arena_Defer (AR w) p = some (a, e, AR v)) : m_ticketlinelaw20_defers (AR w) p b c = some (a == b && e == c, AR v) := by
  unfold m_ticketlinelaw20_defers
  rw [h]
  simp only [Option.bind_some]
  cases a == b <;> simp
theorem law20_reclaims {w : List Int} {p a e b c : Int} {v : List Int} (h : m_arena_Arena_Reclaim (AR w) p = some (a, e, AR v)) : m_ticketlinelaw20_reclaims (AR w) p b c = some (a == b && e == c, AR v) := by
  unfold m_ticketlinelaw20_reclaims
  rw [h]
  simp only [Option.bind_some]
  cases a == b <;> simp
theorem do_alloc {w p : List Int} {n : Int} {fl dl : List Int} (h : AI w n fl dl) (hp : PageOK p) : ∃ a e v fl' dl', m_ticketlineref20_Arena_Alloc (w, ()) p = some (a, e, (v, ())) ∧ m_arena_Arena_Alloc (AR w) p = some (a, e, AR v) ∧
    m_ticketlinelaw20_allocs (AR w) p a e = some (true, AR v) ∧ AI v n fl' dl' := by
  have h1 := aref_Alloc h.sz hp h.head
  have h2 := fun a b => law20_allocs h.sz hp h.head a b
  have h3 := arena_Alloc h.sz hp h.head
  cases hv : validB p with
  | false =>
    rw [hv] at h1 h2 h3
    simp only [if_true] at h1 h2 h3
    exact ⟨0, 12, w, fl, dl, h1, h3, by rw [h2]; rfl, h⟩
  | true =>
    rw [hv] at h1 h2 h3
    simp only [Bool.true_eq_false, if_false] at h1 h2 h3
    by_cases e : G w 1 = 0
    · rw [if_pos e] at h1 h3
      exact ⟨0, 7, w, fl, dl, h1, h3, by rw [h2, if_pos e]; rfl, h⟩
    · rw [if_neg e] at h1 h3
      obtain ⟨r, _, _, _, hi⟩ := h.alloc hp hv e
      exact ⟨G w 1, 0, allocW w p, r, dl, h1, h3, by rw [h2, if_neg e]; simp, hi⟩
theorem do_release {w : List Int} {n : Int} {fl dl : List Int} (h : AI w n fl dl) (p : Int) : ∃ e v fl' dl', m_arena_Arena_Release (AR w) p = some (e, AR v) ∧ m_ticketlineref20_Arena_Release (w, ()) p = some (e, (v, ())) ∧ AI v n fl' dl' := by
  have h1 := arena_Release h.sz p
  have h2 := aref_Release (p := p) h.sz
  by_cases e : busyE w n p true = 0
  · rw [if_pos e] at h1 h2
    exact ⟨0, _, _, _, h1, h2, h.release e⟩
  · rw [if_neg e] at h1 h2
    exact ⟨_, _, fl, dl, h1, h2, h⟩
theorem do_defer {w : List Int} {n : Int} {fl dl : List Int} (h : AI w n fl dl) (p : Int) : ∃ a e v fl' dl', m_arena_Arena_Defer (AR w) p = some (a, e, AR v) ∧ m_ticketlineref20_Arena_Defer (w, ()) p = some (a, e, (v, ())) ∧ AI v n fl' dl' := by
  have h1 := arena_Defer h.sz p h.m2
  have h2 := aref_Defer (p := p) h.sz h.m2
  by_cases e : busyE w n p true = 0
  · rw [if_pos e] at h1 h2
    by_cases e2 : G w 4 = 1099511627776
    · rw [if_pos e2] at h1 h2
      exact ⟨0, 17, w, fl, dl, h1, h2, h⟩
    · rw [if_neg e2] at h1 h2
      exact ⟨_, _, _, _, _, h1, h2, h.defer e e2⟩
  · rw [if_neg e] at h1 h2
    exact ⟨_, _, _, fl, dl, h1, h2, h⟩
theorem do_reclaim {w : List Int} {n : Int} {fl dl : List Int} (h : AI w n fl dl) (p : Int) : ∃ a e v fl' dl', m_arena_Arena_Reclaim (AR w) p = some (a, e, AR v) ∧ m_ticketlineref20_Arena_Reclaim (w, ()) p = some (a, e, (v, ())) ∧ AI v n fl' dl' := by
  by_cases e1 : p < 0
  · exact ⟨0, 2, w, fl, dl, by simp [m_arena_Arena_Reclaim, m_arena_Arena_Reclaim_a, e1], by simp [m_ticketlineref20_Arena_Reclaim, m_ticketlineref20_Arena_Reclaim_a, e1], h⟩
  by_cases e2 : p > 1099511627776
  · exact ⟨0, 2, w, fl, dl, by simp [m_arena_Arena_Reclaim, m_arena_Arena_Reclaim_a, e1, e2], by simp [m_ticketlineref20_Arena_Reclaim, m_ticketlineref20_Arena_Reclaim_a, e1, e2], h⟩
  obtain ⟨ks, fs, v, _, _, _, h1, h2, h3, _⟩ := arena_Reclaim h (below := p) (by omega) (by omega)
  exact ⟨_, _, v, _, _, h1, h2, h3⟩
theorem do_write {w p : List Int} {n : Int} {fl dl : List Int} (h : AI w n fl dl) (q : Int) (hp : PageOK p) : ∃ e v fl' dl', m_arena_Arena_Write (AR w) q p = some (e, AR v) ∧ m_ticketlineref20_Arena_Write (w, ()) q p = some (e, (v, ())) ∧ AI v n fl' dl' := by
  have h1 := arena_Write h.sz q hp
  have h2 := aref_Write (q := q) h.sz hp
  by_cases e : busyE w n q false = 0
  · rw [if_pos e] at h1 h2
    by_cases e2 : validB p = true
    · rw [if_pos e2] at h1 h2
      exact ⟨0, _, fl, dl, h1, h2, h.write hp e2 e⟩
    · rw [if_neg e2] at h1 h2
      exact ⟨_, _, fl, dl, h1, h2, h⟩
  · rw [if_neg e] at h1 h2
    exact ⟨_, _, fl, dl, h1, h2, h⟩
theorem do_setRoot {w : List Int} {n : Int} {fl dl : List Int} (h : AI w n fl dl) (p : Int) : ∃ e v fl' dl', m_arena_Arena_SetRoot (AR w) p = some (e, AR v) ∧ m_ticketlineref20_Arena_SetRoot (w, ()) p = some (e, (v, ())) ∧ AI v n fl' dl' := by
  have h1 := arena_SetRoot h.sz p
  have h2 := aref_SetRoot (p := p) h.sz
  by_cases e : p ≠ 0 ∧ busyE w n p false ≠ 0
  · rw [if_pos e] at h1 h2
    exact ⟨_, _, fl, dl, h1, h2, h⟩
  · rw [if_neg e] at h1 h2
    refine ⟨0, _, fl, dl, h1, h2, h.setRoot ?_⟩
    by_cases e2 : p = 0
    · exact .inl e2
    · right
      by_cases e3 : busyE w n p false = 0
      · exact e3
      · exact absurd ⟨e2, e3⟩ e
theorem do_read {w : List Int} {n : Int} {fl dl : List Int} (h : AI w n fl dl) (p : Int) : ∃ a e, m_ticketlineref20_Arena_Read (w, ()) p = some (a, e, (w, ())) ∧ m_ticketlinelaw20_reads (AR w) p a e = some (true, AR w) := by
  have h1 := ref_Read h.sz p
  have h2 := fun e => law20_reads h.sz p e
  by_cases c : p < 1 ∨ n < p
  · rw [if_pos c] at h1
    refine ⟨_, _, h1, ?_⟩
    have := h2 3
    rw [if_pos c, if_pos c] at this
    exact this
  · rw [if_neg c] at h1
    refine ⟨_, _, h1, ?_⟩
    have := h2 0
    rw [if_neg c, if_neg c] at this
    exact this
abbrev Act := Int × (Int × (Pln × Unit))
theorem does_ok {w : List Int} {n : Int} {fl dl : List Int} (h : AI w n fl dl) {c : Act} (hc : PlnOK c.2.2.1) : ∃ v fl' dl', m_ticketlinelaw20_does (AR w) (w, ()) c = some (true, AR v, (v, ())) ∧ AI v n fl' dl' := by
  obtain ⟨p, b, hp, hpo, _⟩ := plan_page hc
  unfold m_ticketlinelaw20_does
  rw [hp]
  simp only [Option.bind_some]
  have key : ∀ q : List Int, PageOK q → ∃ v fl' dl', (if (c.1 == (0 : Int)) = true then
      Option.bind (m_ticketlineref20_Arena_Alloc (w, ()) q) fun r29 =>
      Option.bind (m_ticketlinelaw20_allocs (AR w) q r29.1 r29.2.1) fun r30 =>
      some (r30.1, (((r30.2.1.1.1, ()), ()), ()), (r29.2.2.1, ()))
    else
      if (c.1 == (1 : Int)) = true then
        Option.bind (m_arena_Arena_Release (AR w) c.2.1) fun r32 =>
        Option.bind (m_ticketlineref20_Arena_Release (w, ()) c.2.1) fun r33 =>
        some ((r32.1 == r33.1), (((r32.2.1.1.1, ()), ()), ()), (r33.2.1, ()))
      else
        if (c.1 == (2 : Int)) = true then
          Option.bind (m_ticketlineref20_Arena_Defer (w, ()) c.2.1) fun r36 =>
          Option.bind (m_ticketlinelaw20_defers (AR w) c.2.1 r36.1 r36.2.1) fun r37 =>
          some (r37.1, (((r37.2.1.1.1, ()), ()), ()), (r36.2.2.1, ()))
        else
          if (c.1 == (3 : Int)) = true then
            Option.bind (m_ticketlineref20_Arena_Reclaim (w, ()) c.2.1) fun r39 =>
            Option.bind (m_ticketlinelaw20_reclaims (AR w) c.2.1 r39.1 r39.2.1) fun r40 =>
            some (r40.1, (((r40.2.1.1.1, ()), ()), ()), (r39.2.2.1, ()))
          else
            if (c.1 == (4 : Int)) = true then
              Option.bind (m_arena_Arena_Write (AR w) c.2.1 q) fun r42 =>
              Option.bind (m_ticketlineref20_Arena_Write (w, ()) c.2.1 q) fun r43 =>
              some ((r42.1 == r43.1), (((r42.2.1.1.1, ()), ()), ()), (r43.2.1, ()))
            else
              if (c.1 == (5 : Int)) = true then
                Option.bind (m_arena_Arena_SetRoot (AR w) c.2.1) fun r46 =>
                Option.bind (m_ticketlineref20_Arena_SetRoot (w, ()) c.2.1) fun r47 =>
                some ((r46.1 == r47.1), (((r46.2.1.1.1, ()), ()), ()), (r47.2.1, ()))
              else
                if (c.1 == (6 : Int)) = true then
                  Option.bind (m_ticketlineref20_Arena_Read (w, ()) c.2.1) fun r50 =>
                  Option.bind (m_ticketlinelaw20_reads (AR w) c.2.1 r50.1 r50.2.1) fun r52 =>
                  some (r52.1, (((r52.2.1.1.1, ()), ()), ()), (r50.2.2.1, ()))
                else
                  some (true, AR w, (w, ()))) = some (true, AR v, (v, ())) ∧ AI v n fl' dl' := by
    intro q hq
    by_cases c0 : c.1 = 0
    · obtain ⟨a, e, v, fl', dl', h1, _, h2, h3⟩ := do_alloc h hq
      exact ⟨v, fl', dl', by rw [if_pos (by simpa using c0), h1]; simp only [Option.bind_some, h2], h3⟩
    rw [if_neg (by simpa using c0)]
    by_cases c1 : c.1 = 1
    · obtain ⟨e, v, fl', dl', h1, h2, h3⟩ := do_release h c.2.1
      exact ⟨v, fl', dl', by rw [if_pos (by simpa using c1), h1, h2]; simp, h3⟩
    rw [if_neg (by simpa using c1)]
    by_cases c2 : c.1 = 2
    · obtain ⟨a, e, v, fl', dl', h1, h2, h3⟩ := do_defer h c.2.1
      exact ⟨v, fl', dl', by rw [if_pos (by simpa using c2), h2]; simp only [Option.bind_some, law20_defers h1]; simp, h3⟩
    rw [if_neg (by simpa using c2)]
    by_cases c3 : c.1 = 3
    · obtain ⟨a, e, v, fl', dl', h1, h2, h3⟩ := do_reclaim h c.2.1
      exact ⟨v, fl', dl', by rw [if_pos (by simpa using c3), h2]; simp only [Option.bind_some, law20_reclaims h1]; simp, h3⟩
    rw [if_neg (by simpa using c3)]
    by_cases c4 : c.1 = 4
    · obtain ⟨e, v, fl', dl', h1, h2, h3⟩ := do_write h c.2.1 hq
      exact ⟨v, fl', dl', by rw [if_pos (by simpa using c4), h1, h2]; simp, h3⟩
    rw [if_neg (by simpa using c4)]
    by_cases c5 : c.1 = 5
    · obtain ⟨e, v, fl', dl', h1, h2, h3⟩ := do_setRoot h c.2.1
      exact ⟨v, fl', dl', by rw [if_pos (by simpa using c5), h1, h2]; simp, h3⟩
    rw [if_neg (by simpa using c5)]
    by_cases c6 : c.1 = 6
    · obtain ⟨a, e, h1, h2⟩ := do_read h c.2.1
      exact ⟨w, fl, dl, by rw [if_pos (by simpa using c6), h1]; simp only [Option.bind_some, h2], h⟩
    rw [if_neg (by simpa using c6)]
    exact ⟨w, fl, dl, rfl, h⟩
  cases b with
  | false => exact key _ page_zero
  | true => exact key _ hpo

theorem fmtW_AI {w : List Int} {n : Int} (h0 : 1 ≤ n) (h1 : n ≤ 511) (h2 : 16 + 128 * n ≤ w.length) (h3 : w.length ≤ 65536) (hu : U64 w) : ∃ fl, AI (fmtW w n) n fl [] := by
  have hs := fmtW_sz h0 h1 h2 h3 hu
  have hg := fun j hj => G_fmtW (w := w) (n := n) h0 h2 (j := j) hj
  have hk : ∀ p, 1 ≤ p → p ≤ n → K (fmtW w n) p = 0 := fun p a b => by
    unfold K
    rw [hg _ (by unfold pl; omega), if_neg (by unfold pl; omega), if_neg (by unfold pl; omega), if_neg (by unfold pl; omega), if_neg (by unfold pl; omega), if_pos (by unfold pl; omega)]
  have hl : ∀ p, 1 ≤ p → p ≤ n → G (fmtW w n) (pl p 10) = if p < n then p + 1 else 0 := fun p a b => by
    rw [hg _ (by unfold pl; omega)]
    by_cases e : p < n
    · rw [if_pos (by unfold pl; omega), if_pos e]; unfold pl; omega
    · rw [if_neg (by unfold pl; omega), if_neg (by unfold pl; omega), if_neg (by unfold pl; omega), if_neg (by unfold pl; omega), if_pos (by unfold pl; omega), if_neg e]
  have g1 : G (fmtW w n) 1 = 1 := by rw [hg 1 (by omega), if_neg (by omega), if_neg (by omega), if_pos rfl]
  have g2 : G (fmtW w n) 2 = 0 := by rw [hg 2 (by omega), if_neg (by omega), if_neg (by omega), if_neg (by omega), if_neg (by omega), if_pos (by omega)]
  have g3 : G (fmtW w n) 3 = 0 := by rw [hg 3 (by omega), if_neg (by omega), if_neg (by omega), if_neg (by omega), if_neg (by omega), if_pos (by omega)]
  have g4 : G (fmtW w n) 4 = 1 := by rw [hg 4 (by omega), if_neg (by omega), if_pos rfl]
  -- the pages from p on
  have ch : ∀ (m : Nat) (p pos : Int), 1 ≤ p → p + m = n → G (fmtW w n) pos = p → ∃ l, Ch (fmtW w n) n 0 pos l ∧ l.Nodup ∧ ∀ x, x ∈ l ↔ p ≤ x ∧ x ≤ n := by
    intro m
    induction m with
    | zero =>
      intro p pos a b c
      refine ⟨[p], ⟨c, a, by omega, hk p a (by omega), ?_⟩, by simp, fun x => by simp; omega⟩
      show G _ _ = 0
      rw [hl p a (by omega), if_neg (by omega)]
    | succ m ih =>
      intro p pos a b c
      obtain ⟨l, l1, l2, l3⟩ := ih (p + 1) (pl p 10) (by omega) (by omega) (by rw [hl p a (by omega), if_pos (by omega)])
      refine ⟨p :: l, ⟨c, a, by omega, hk p a (by omega), l1⟩, List.nodup_cons.2 ⟨fun h => by have := (l3 p).1 h; omega, l2⟩, fun x => ?_⟩
      rw [List.mem_cons, l3 x]
      omega
  obtain ⟨fl, f1, f2, f3⟩ := ch (n - 1).toNat 1 1 (by omega) (by omega) g1
  refine ⟨fl, hs, f1, g2, f2, by simp, fun p a b _ => (f3 p).2 ⟨a, b⟩, fun p a b c => ?_, fun p a b => .inl (hk p a b), trivial, by omega, by omega, .inl g3⟩
  rw [hk p a b] at c
  omega
/-- words of which some are not 0 -/
theorem begun_ok {pages more : Int} (h0 : 1 ≤ pages) (h1 : pages ≤ 6) (m0 : 0 ≤ more) (m1 : more < 256) : ∃ w fl, m_ticketlinelaw20_begun pages more = some (some (AR w), some (w, ())) ∧ AI w pages fl [] ∧ w.length ≤ 1100 := by
  unfold m_ticketlinelaw20_begun m_ticketlinelaw20_begun_a
  rw [wI (x := 128 * pages) (by omega) (by omega), wI (x := 16 + 128 * pages) (by omega) (by omega), wI (x := more) (by omega) (by omega), wI (x := 16 + 128 * pages + more) (by omega) (by omega)]
  have hf : fits (16 + 128 * pages + more).toNat 8 := by unfold fits; omega
  simp only [law20_memory (n := 16 + 128 * pages + more) (by omega) (by omega), Option.bind_some, show 0 ≤ 16 + 128 * pages + more by omega, if_true, Int.le_refl, hf]
  have l1 : ∀ (v w : List Int) (fl : List Int), w.length = (16 + 128 * pages + more).toNat → ∀ (m fuel N : Nat) (i : Int), i + m = 16 + 128 * pages + more → 0 ≤ i → m < fuel → U64 w →
      m_ticketlinelaw20_begun_l1 N fuel pages (16 + 128 * pages + more) i w v w = some (some (AR v), some (fmtW w pages, ())) := by
    intro v w fl hl m
    induction m with
    | zero =>
      intro fuel N i hm hi hf hu
      obtain ⟨fuel, rfl⟩ : ∃ k, fuel = k + 1 := ⟨fuel - 1, by omega⟩
      simp only [m_ticketlinelaw20_begun_l1, m_ticketlinelaw20_begun_l1_b, show ¬ i < 16 + 128 * pages + more by omega, decide_false, Bool.false_eq_true, if_false, ref_Format (w := w) (n := pages) (by omega) (by omega) (by omega) (by omega), Option.bind_some]
    | succ m ih =>
      intro fuel N i hm hi hf hu
      obtain ⟨fuel, rfl⟩ : ∃ k, fuel = k + 1 := ⟨fuel - 1, by omega⟩
      simp only [m_ticketlinelaw20_begun_l1, m_ticketlinelaw20_begun_l1_b, show i < 16 + 128 * pages + more by omega, decide_true, if_true, mem_Load (w := w) (i := i) hi (by omega), Option.bind_some, hi, show i < w.length by omega, rd_G, bne_self_eq_false, Bool.false_eq_true, if_false]
      rw [wI (x := i + 1) (by omega) (by omega)]
      exact ih fuel N (i + 1) (by omega) (by omega) (by omega) hu
  have l0 : ∀ (m fuel N : Nat) (i : Int) (w : List Int), 16 + 128 * pages + more - i ≤ m → 0 ≤ i → i < 5000 → m < fuel → 2000 < N → w.length = (16 + 128 * pages + more).toNat → U64 w →
      ∃ v, m_ticketlinelaw20_begun_l0 N fuel pages (16 + 128 * pages + more) i w w = some (some (AR (fmtW v pages)), some (fmtW v pages, ())) ∧ v.length = w.length ∧ U64 v := by
    intro m
    induction m with
    | zero =>
      intro fuel N i w hm hi hi2 hf hN hl hu
      obtain ⟨fuel, rfl⟩ : ∃ k, fuel = k + 1 := ⟨fuel - 1, by omega⟩
      refine ⟨w, ?_, rfl, hu⟩
      simp only [m_ticketlinelaw20_begun_l0, m_ticketlinelaw20_begun_l0_b, show ¬ i < 16 + 128 * pages + more by omega, decide_false, Bool.false_eq_true, if_false]
      rw [arena_Format (by omega) (by omega), if_neg (by omega)]
      simp only [Option.bind_some, bne_self_eq_false, Bool.false_eq_true, if_false]
      exact l1 _ w [] hl (16 + 128 * pages + more).toNat N N 0 (by omega) (by omega) (by omega) hu
    | succ m ih =>
      intro fuel N i w hm hi hi2 hf hN hl hu
      obtain ⟨fuel, rfl⟩ : ∃ k, fuel = k + 1 := ⟨fuel - 1, by omega⟩
      by_cases e : i < 16 + 128 * pages + more
      · have hu2 := U64_wr hu i (v := i + 3) (by omega) (by omega)
        have hl2 : (wr w i (i + 3)).length = w.length := wr_length _ _ _
        have hg : G (wr w i (i + 3)) i = i + 3 := G_wr_same hi (by omega) _
        obtain ⟨v, v1, v2, v3⟩ := ih fuel N (i + 5) (wr w i (i + 3)) (by omega) (by omega) (by omega) (by omega) hN (by rw [hl2]; exact hl) hu2
        refine ⟨v, ?_, by rw [v2, hl2], v3⟩
        have ew : w.set i.toNat (i + 3) = wr w i (i + 3) := rfl
        simp only [m_ticketlinelaw20_begun_l0, m_ticketlinelaw20_begun_l0_b, e, decide_true, if_true, hi, show i < w.length by omega]
        rw [wI (x := i + 3) (by omega) (by omega), wU (x := i + 3) (by omega) (by omega), wI (x := i + 5) (by omega) (by omega), ew]
        simp only [hl2, show i < w.length by omega, if_true, rd_G, hg, mem_Store (w := w) (i := i) hi (by omega), Option.bind_some]
        exact v1
      · refine ⟨w, ?_, rfl, hu⟩
        simp only [m_ticketlinelaw20_begun_l0, m_ticketlinelaw20_begun_l0_b, e, decide_false, Bool.false_eq_true, if_false]
        rw [arena_Format (by omega) (by omega), if_neg (by omega)]
        simp only [Option.bind_some, bne_self_eq_false, Bool.false_eq_true, if_false]
        exact l1 _ w [] hl (16 + 128 * pages + more).toNat N N 0 (by omega) (by omega) (by omega) hu
  obtain ⟨v, v1, v2, v3⟩ := l0 2000 FUEL FUEL 0 (List.replicate (16 + 128 * pages + more).toNat 0) (by omega) (by omega) (by omega) (by have := FUEL_big; omega) (by have := FUEL_big; omega) (rep_len _) (U64_rep _)
  rw [rep_len] at v2
  obtain ⟨fl, hfl⟩ := fmtW_AI (w := v) (n := pages) h0 (by omega) (by omega) (by omega) v3
  exact ⟨fmtW v pages, fl, v1, hfl, by rw [fmtW_length]; omega⟩

abbrev actTy : Ty := .pair (.int .i64) (.pair (.int .i64) (.pair plnTy .nl))
theorem rd_act {l : List Act} {i : Int} (h0 : 0 ≤ i) (h1 : i < l.length) : rd actTy l i ∈ l := by
  unfold rd
  rw [List.getD_eq_getElem?_getD, List.getElem?_eq_getElem (by omega)]
  exact List.getElem_mem ..
theorem arena_Copy {w : List Int} (h0 : 0 < w.length) (h1 : w.length ≤ 65536) : m_arena_Arena_Copy (AR w) = some (some (AR w), AR w) := by
  unfold m_arena_Arena_Copy
  rw [arena_Mem h0 (by omega)]
  rfl
theorem plays_loop {n : Int} (l : List Act) (hl : ∀ a, a ∈ l → PlnOK a.2.2.1) (hl2 : l.length ≤ 24) : ∀ (m fuel N : Nat) (i : Int) (w fl dl : List Int), i + m = l.length → 0 ≤ i → m < fuel → AI w n fl dl → m_ticketlinelaw20_ArenaPlays_l0 N fuel l i w w = some true := by
  intro m
  induction m with
  | zero =>
    intro fuel N i w fl dl hm hi hf h
    obtain ⟨fuel, rfl⟩ : ∃ k, fuel = k + 1 := ⟨fuel - 1, by omega⟩
    simp [m_ticketlinelaw20_ArenaPlays_l0, m_ticketlinelaw20_ArenaPlays_l0_b, show ¬ i < (l.length : Int) by omega, known20]
  | succ m ih =>
    intro fuel N i w fl dl hm hi hf h
    obtain ⟨fuel, rfl⟩ : ∃ k, fuel = k + 1 := ⟨fuel - 1, by omega⟩
    have hlt : i < (l.length : Int) := by omega
    have hmem := rd_act hi hlt
    obtain ⟨v, fl', dl', hd, hv⟩ := does_ok h (hl _ hmem)
    have hb := hv.sz.big
    have hlen := hv.sz.len
    obtain ⟨a, e, v2, fl2, dl2, _, ha, _, hv2⟩ := do_alloc hv (p := emptyS 0 eB eB) (empty_page (by omega) (by omega) (by decide) (by decide))
    obtain ⟨a3, e3, v3, fl3, dl3, hd3, _, _⟩ := do_defer hv2 1
    have next := ih fuel N (i + 1) v fl' dl' (by omega) (by omega) (by omega) hv
    simp only [m_ticketlinelaw20_ArenaPlays_l0, m_ticketlinelaw20_ArenaPlays_l0_b, hlt, decide_true, if_true, hi, hd, Option.bind_some, Bool.not_true, Bool.false_eq_true, if_false, arena_Copy (w := v) (by omega) hlen,
      show (⟨#[]⟩ : ByteArray) = eB from rfl, ref_Empty (level := 0) (low := eB) (high := eB) (by omega) (by omega) (by decide) (by decide), ha, hd3, alike_same hv.sz]
    rw [wI (x := i + 1) (by omega) (by omega)]
    simp only [next, ite_self]
theorem arenaPlays_true (pages : Int) {more : Int} (hm : 0 ≤ more ∧ more < 256) {l : List Act} (hl : ∀ a, a ∈ l → PlnOK a.2.2.1) : m_ticketlinelaw20_ArenaPlays pages more l = some true := by
  unfold m_ticketlinelaw20_ArenaPlays m_ticketlinelaw20_ArenaPlays_a
  by_cases h1 : pages < 1
  · simp [h1, known20]
  by_cases h2 : pages > 6
  · simp [h1, h2, known20]
  by_cases h3 : (l.length : Int) > 24
  · simp [h1, h2, h3, known20]
  obtain ⟨w, fl, hb, hw, _⟩ := begun_ok (pages := pages) (by omega) (by omega) hm.1 hm.2
  rw [if_neg (by simpa using h1), if_neg (by simpa using h2), if_neg (by simpa using h3), hb]
  simp only [Option.bind_some, alike_same hw.sz, Bool.not_true, Bool.false_eq_true, if_false]
  exact plays_loop l hl (by omega) l.length FUEL FUEL 0 w fl [] (by omega) (by omega) (by have := FUEL_big; omega) hw
end Go.Ev.L
