/- Arenas: which words are those of an arena; the program and the reference agree on any words. -/
import Derived.Test.YtbmdoalneeeonaaA8
set_option linter.unusedVariables false
set_option linter.unusedSimpArgs false
namespace Go.Ev.L
open Go Go.Ev Go.Ev.M

theorem G_range {l : List Int} {lo hi : Int} (h0 : lo ≤ 0) (h1 : 0 < hi) (h : ∀ x, x ∈ l → lo ≤ x ∧ x < hi) (i : Int) : lo ≤ G l i ∧ G l i < hi := by
  unfold G
  rw [List.getD_eq_getElem?_getD]
  cases e : l[i.toNat]? with
  | none => exact ⟨h0, h1⟩
  | some x => exact h x (List.mem_of_getElem? e)
theorem both_list {w : List Int} {n : Int} (hs : Sz w n) (k : Int) : ∀ (m : Nat) (pos : Int) (acc : List Int) (f1 f2 N1 N2 : Nat), (acc.length : Int) + m = n → m < f1 → m + 1 < f2 →
    ∃ l ok l' ok', m_arena_Arena_list_l0 N1 f1 k (G w pos) acc w = some (l, ok, AR w) ∧ m_ticketlineref20_Arena_list_l0 N2 f2 k (G w pos) acc w = some (l', ok', (w, ())) ∧
      ((ok = true ∧ ok' = true ∧ l = l' ∧ ∃ r, l = acc ++ r ∧ Ch w n k pos r) ∨ (ok = false ∧ (ok' = false ∨ n < l'.length))) := by
  have hh := hs.hi; have hb := hs.big; have hlo := hs.lo
  intro m
  induction m with
  | zero =>
    intro pos acc f1 f2 N1 N2 ha h1 h2
    obtain ⟨f1, rfl⟩ : ∃ i, f1 = i + 1 := ⟨f1 - 1, by omega⟩
    obtain ⟨f2, rfl⟩ : ∃ i, f2 = i + 2 := ⟨f2 - 2, by omega⟩
    have hg := hs.u.G pos
    by_cases e0 : G w pos = 0
    · refine ⟨acc, true, acc, true, ?_, ?_, .inl ⟨rfl, rfl, rfl, [], by simp, e0⟩⟩
      · simp only [m_arena_Arena_list_l0, m_arena_Arena_list_l0_b, e0, bne_self_eq_false, Bool.false_eq_true, if_false]
      · simp only [m_ticketlineref20_Arena_list_l0, m_ticketlineref20_Arena_list_l0_b, e0, bne_self_eq_false, Bool.false_eq_true, if_false]
    have b0 : (G w pos != 0) = true := by simpa using e0
    by_cases e1 : G w pos > n
    · refine ⟨[], false, [], false, ?_, ?_, .inr ⟨rfl, .inl rfl⟩⟩
      · simp only [m_arena_Arena_list_l0, m_arena_Arena_list_l0_b, b0, if_true, arena_pages hs, Option.bind_some]
        rw [wU (x := n) (by omega) (by omega), if_pos (by simpa using e1)]
      · simp only [m_ticketlineref20_Arena_list_l0, m_ticketlineref20_Arena_list_l0_b, b0, if_true, show (0 : Int) < w.length by omega, rd_G, hs.pages]
        rw [if_pos (by simpa using e1)]
    have hfit := hs.fit (p := G w pos) (by omega) (by omega)
    obtain ⟨y1, y2, y3⟩ := hfit.at (i := 8) (by omega) (by omega)
    obtain ⟨x1, x2, x3⟩ := hfit.at (i := 10) (by omega) (by omega)
    have hp : ∀ N, m_arena_Arena_list_l0 N (f1 + 1) k (G w pos) acc w = some ([], false, AR w) := fun N => by
      simp only [m_arena_Arena_list_l0, m_arena_Arena_list_l0_b, b0, if_true, arena_pages hs, Option.bind_some]
      rw [wU (x := n) (by omega) (by omega), if_neg (by simpa using e1), if_pos (by simp; omega)]
    have eK : G w (pl (G w pos) 8) = K w (G w pos) := rfl
    have hff : fits (acc.length + 1) 8 := by unfold fits; omega
    have hr : ∀ N, m_ticketlineref20_Arena_list_l0 N (f2 + 2) k (G w pos) acc w = if (K w (G w pos) != k) = true then some ([], false, (w, ())) else m_ticketlineref20_Arena_list_l0 N (f2 + 1) k (G w (pl (G w pos) 10)) (acc ++ [G w pos]) w := fun N => by
      rw [m_ticketlineref20_Arena_list_l0]
      simp only [m_ticketlineref20_Arena_list_l0_b, b0, if_true, show (0 : Int) < w.length by omega, rd_G, hs.pages, show ¬ G w pos > n from e1, decide_false, Bool.false_eq_true, if_false, ref_Pages hs, Option.bind_some, show ¬ (acc.length : Int) > n by omega]
      rw [wI (x := G w pos) (by omega) (by omega)]
      simp only [ref_at (p := G w pos) (i := 8) (by omega) (by omega) (by omega) (by omega), Option.bind_some, show 0 ≤ pl (G w pos) 8 by omega, if_true, y2, eK, List.length_singleton, hff, ref_at (p := G w pos) (i := 10) (by omega) (by omega) (by omega) (by omega),
        show 0 ≤ pl (G w pos) 10 by omega, x2]
    by_cases ek : (K w (G w pos) != k) = true
    · exact ⟨[], false, [], false, hp N1, by rw [hr, if_pos ek], .inr ⟨rfl, .inl rfl⟩⟩
    · rw [hr, if_neg ek]
      have hg2 := hs.u.G (pl (G w pos) 10)
      by_cases e2 : G w (pl (G w pos) 10) = 0
      · refine ⟨[], false, acc ++ [G w pos], true, hp N1, ?_, .inr ⟨rfl, .inr (by simp; omega)⟩⟩
        simp only [m_ticketlineref20_Arena_list_l0, m_ticketlineref20_Arena_list_l0_b, e2, bne_self_eq_false, Bool.false_eq_true, if_false]
      · have b2 : (G w (pl (G w pos) 10) != 0) = true := by simpa using e2
        refine ⟨[], false, [], false, hp N1, ?_, .inr ⟨rfl, .inl rfl⟩⟩
        simp only [m_ticketlineref20_Arena_list_l0, m_ticketlineref20_Arena_list_l0_b, b2, if_true, show (0 : Int) < w.length by omega, rd_G, hs.pages, ref_Pages hs, Option.bind_some]
        by_cases e3 : G w (pl (G w pos) 10) > n
        · rw [if_pos (by simpa using e3)]
        · rw [if_neg (by simpa using e3), if_pos (by simp; omega)]
  | succ m ih =>
    intro pos acc f1 f2 N1 N2 ha h1 h2
    obtain ⟨f1, rfl⟩ : ∃ i, f1 = i + 1 := ⟨f1 - 1, by omega⟩
    obtain ⟨f2, rfl⟩ : ∃ i, f2 = i + 1 := ⟨f2 - 1, by omega⟩
    have hg := hs.u.G pos
    by_cases e0 : G w pos = 0
    · refine ⟨acc, true, acc, true, ?_, ?_, .inl ⟨rfl, rfl, rfl, [], by simp, e0⟩⟩
      · simp only [m_arena_Arena_list_l0, m_arena_Arena_list_l0_b, e0, bne_self_eq_false, Bool.false_eq_true, if_false]
      · simp only [m_ticketlineref20_Arena_list_l0, m_ticketlineref20_Arena_list_l0_b, e0, bne_self_eq_false, Bool.false_eq_true, if_false]
    have b0 : (G w pos != 0) = true := by simpa using e0
    by_cases e1 : G w pos > n
    · refine ⟨[], false, [], false, ?_, ?_, .inr ⟨rfl, .inl rfl⟩⟩
      · simp only [m_arena_Arena_list_l0, m_arena_Arena_list_l0_b, b0, if_true, arena_pages hs, Option.bind_some]
        rw [wU (x := n) (by omega) (by omega), if_pos (by simpa using e1)]
      · simp only [m_ticketlineref20_Arena_list_l0, m_ticketlineref20_Arena_list_l0_b, b0, if_true, show (0 : Int) < w.length by omega, rd_G, hs.pages]
        rw [if_pos (by simpa using e1)]
    have hfit := hs.fit (p := G w pos) (by omega) (by omega)
    obtain ⟨y1, y2, y3⟩ := hfit.at (i := 8) (by omega) (by omega)
    obtain ⟨x1, x2, x3⟩ := hfit.at (i := 10) (by omega) (by omega)
    have eK : G w (pl (G w pos) 8) = K w (G w pos) := rfl
    have hff : fits (acc.length + 1) 8 := by unfold fits; omega
    have hr : m_ticketlineref20_Arena_list_l0 N2 (f2 + 1) k (G w pos) acc w = if (K w (G w pos) != k) = true then some ([], false, (w, ())) else m_ticketlineref20_Arena_list_l0 N2 f2 k (G w (pl (G w pos) 10)) (acc ++ [G w pos]) w := by
      rw [m_ticketlineref20_Arena_list_l0]
      simp only [m_ticketlineref20_Arena_list_l0_b, b0, if_true, show (0 : Int) < w.length by omega, rd_G, hs.pages, show ¬ G w pos > n from e1, decide_false, Bool.false_eq_true, if_false, ref_Pages hs, Option.bind_some, show ¬ (acc.length : Int) > n by omega]
      rw [wI (x := G w pos) (by omega) (by omega)]
      simp only [ref_at (p := G w pos) (i := 8) (by omega) (by omega) (by omega) (by omega), Option.bind_some, show 0 ≤ pl (G w pos) 8 by omega, if_true, y2, eK, List.length_singleton, hff, ref_at (p := G w pos) (i := 10) (by omega) (by omega) (by omega) (by omega),
        show 0 ≤ pl (G w pos) 10 by omega, x2]
    have hp : m_arena_Arena_list_l0 N1 (f1 + 1) k (G w pos) acc w = if (K w (G w pos) != k) = true then some ([], false, AR w) else m_arena_Arena_list_l0 N1 f1 k (G w (pl (G w pos) 10)) (acc ++ [G w pos]) w := by
      rw [m_arena_Arena_list_l0]
      simp only [m_arena_Arena_list_l0_b, b0, if_true, arena_pages hs, Option.bind_some]
      rw [wU (x := n) (by omega) (by omega), wI (x := G w pos) (by omega) (by omega), if_neg (by simpa using e1), if_neg (by simp; omega)]
      simp only [arena_kind hfit, Option.bind_some, List.length_singleton, hff, if_true, x3, mem_Load (w := w) (i := pl (G w pos) 10) (by omega) x2]
    by_cases ek : (K w (G w pos) != k) = true
    · exact ⟨[], false, [], false, by rw [hp, if_pos ek], by rw [hr, if_pos ek], .inr ⟨rfl, .inl rfl⟩⟩
    · rw [hp, hr, if_neg ek, if_neg ek]
      obtain ⟨l, ok, l', ok', i1, i2, i3⟩ := ih (pl (G w pos) 10) (acc ++ [G w pos]) f1 f2 N1 N2 (by simp; omega) (by omega) (by omega)
      refine ⟨l, ok, l', ok', i1, i2, ?_⟩
      rcases i3 with ⟨a1, a2, a3, r, a4, a5⟩ | h
      · exact .inl ⟨a1, a2, a3, G w pos :: r, by rw [a4]; simp, rfl, by omega, by omega, by simpa using ek, a5⟩
      · exact .inr h
/-- the root's page is right -/
def rootB (w : List Int) (n : Int) : Bool := (G w 3 == 0) || (decide (G w 3 ≤ n) && usedK (K w (G w 3)))
theorem both_marks {w : List Int} {n : Int} (hs : Sz w n) (dl : List Int) (hd : dl.length ≤ 600) : ∀ (rest pre : List Int) (mark : Int) (f1 f2 N1 N2 : Nat), dl = pre ++ rest → (∀ p ∈ rest, 1 ≤ p ∧ p ≤ n) → rest.length < f1 → rest.length < f2 →
    ∃ b : Bool, m_arena_Arena_sound_l0 N1 f1 n mark dl.length pre.length dl w = some (b, AR w) ∧ m_ticketlineref20_Open_l0 N2 f2 w mark pre.length dl w = some (if b = true then some (w, ()) else none) := by
  have hh := hs.hi; have hb := hs.big; have hlo := hs.lo
  intro rest
  induction rest with
  | nil =>
    intro pre mark f1 f2 N1 N2 h hm h1 h2
    obtain ⟨f1, rfl⟩ : ∃ i, f1 = i + 1 := ⟨f1 - 1, by omega⟩
    obtain ⟨f2, rfl⟩ : ∃ i, f2 = i + 1 := ⟨f2 - 1, by omega⟩
    have hlen : dl.length = pre.length := by rw [h]; simp
    have hg := hs.u.G 3
    refine ⟨rootB w n, ?_, ?_⟩
    · simp only [m_arena_Arena_sound_l0, m_arena_Arena_sound_l0_b, show ¬ (pre.length : Int) < dl.length by omega, decide_false, Bool.false_eq_true, if_false, mem_Load (w := w) (i := 3) (by omega) (by omega), Option.bind_some, rootB]
      by_cases e : G w 3 = 0
      · simp [e]
      · rw [if_neg (by simpa using e), wU (x := n) (by omega) (by omega)]
        have e2 : (G w 3 == 0) = false := by simpa using e
        rw [e2]
        by_cases e3 : G w 3 ≤ n
        · rw [wI (x := G w 3) (by omega) (by omega)]
          simp only [e3, decide_true, if_true, arena_used (hs.fit (p := G w 3) (by omega) e3), Option.bind_some, Bool.false_or, Bool.true_and]
        · simp [e3]
    · simp only [m_ticketlineref20_Open_l0, m_ticketlineref20_Open_l0_b, show ¬ (pre.length : Int) < dl.length by omega, decide_false, Bool.false_eq_true, if_false, show (3 : Int) < w.length by omega, if_true, rd_G]
      by_cases e : G w 3 = 0
      · have hr : rootB w n = true := by simp [rootB, e]
        simp [e, hr]
      · have e2 : (G w 3 == 0) = false := by simpa using e
        rw [if_pos (by simpa using e)]
        by_cases e4 : G w 3 ≤ n
        · have hr : rootB w n = usedK (K w (G w 3)) := by unfold rootB; rw [e2]; simp [e4]
          have e5 : mn (G w 3) 600 = G w 3 := by unfold mn; rw [if_neg (by omega)]
          rw [e5, wI (x := G w 3) (by omega) (by omega), aref_used hs, hr]
          simp only [show 1 ≤ G w 3 by omega, e4, decide_true, Bool.true_and, Option.bind_some]
          cases usedK (K w (G w 3)) <;> simp
        · have hr : rootB w n = false := by unfold rootB; rw [e2]; simp [e4]
          have e6 : n < mn (G w 3) 600 ∧ mn (G w 3) 600 ≤ 600 := by unfold mn; split <;> omega
          rw [wI (x := mn (G w 3) 600) (by omega) (by omega), aref_used hs, hr]
          simp [show ¬ mn (G w 3) 600 ≤ n by omega]
  | cons p r ih =>
    intro pre mark f1 f2 N1 N2 h hm h1 h2
    obtain ⟨f1, rfl⟩ : ∃ i, f1 = i + 1 := ⟨f1 - 1, by omega⟩
    obtain ⟨f2, rfl⟩ : ∃ i, f2 = i + 1 := ⟨f2 - 1, by omega⟩
    have hlen : dl.length = pre.length + (r.length + 1) := by rw [h]; simp <;> omega
    obtain ⟨p1, p2⟩ := hm p (List.mem_cons_self ..)
    obtain ⟨x1, x2, x3⟩ := (hs.fit p1 p2).at (i := 11) (by omega) (by omega)
    have hg : G dl pre.length = p := by rw [h]; exact G_app pre p r
    simp only [List.length_cons] at h1 h2
    simp only [m_arena_Arena_sound_l0, m_arena_Arena_sound_l0_b, m_ticketlineref20_Open_l0, m_ticketlineref20_Open_l0_b, show (pre.length : Int) < dl.length by omega, decide_true, if_true, show (0 : Int) ≤ pre.length by omega, rd_G, hg, x3, Option.bind_some,
      mem_Load (w := w) (i := pl p 11) (by omega) x2, ref_at (p := p) (i := 11) (by omega) (by omega) (by omega) (by omega), show 0 ≤ pl p 11 by omega, x2]
    by_cases c1 : G w (pl p 11) < 1
    · exact ⟨false, by simp [c1], by simp [c1]⟩
    by_cases c2 : G w (pl p 11) ≥ mark
    · exact ⟨false, by simp [c1, c2], by simp [c1, c2]⟩
    obtain ⟨b, i1, i2⟩ := ih (pre ++ [p]) (G w (pl p 11)) f1 f2 N1 N2 (by rw [h]; simp) (fun q hq => hm q (List.mem_cons_of_mem _ hq)) (by omega) (by omega)
    have e1 : (pre ++ [p]).length = pre.length + 1 := by simp
    rw [e1] at i1 i2
    refine ⟨b, ?_, ?_⟩
    · rw [wI (x := (pre.length : Int) + 1) (by omega) (by omega)]
      simp only [c1, c2, decide_false, Bool.false_eq_true, if_false]
      exact i1
    · rw [wI (x := (pre.length : Int) + 1) (by omega) (by omega)]
      simp only [c1, c2, decide_false, Bool.false_eq_true, if_false]
      exact i2
/-- whether words are those of an arena -/
theorem open_ok {w : List Int} (hu : U64 w) (h0 : 0 < w.length) (h1 : w.length ≤ 65536) :
    (∃ n, Sz w n ∧ G w 1 ≤ n ∧ m_arena_Open (w, ()) = some (some (AR w), (0 : Int), (w, ())) ∧ m_ticketlineref20_Open w = some (some (w, ()))) ∨
      (m_arena_Open (w, ()) = some (none, (12 : Int), (w, ())) ∧ m_ticketlineref20_Open w = some none) := by
  have hz : ¬ ((w.length : Int) == 0) = true := by simp; intro e; subst e; simp at h0
  have hg := hu.G 0
  unfold m_arena_Open m_ticketlineref20_Open m_ticketlineref20_Open_a
  dsimp only
  rw [if_neg hz, if_neg hz]
  simp only [mem_Load (w := w) (i := 0) (by omega) (by omega), Option.bind_some, bne_self_eq_false, Bool.false_eq_true, if_false, rd_G, show (0 : Int) < w.length by omega, if_true]
  by_cases c1 : G w 0 < 1
  · refine .inr ⟨by simp [c1], ?_⟩
    by_cases c0 : (w.length : Int) < 16
    · simp [c0]
    · simp [c0, c1]
  by_cases c2 : G w 0 > 511
  · refine .inr ⟨by simp [c1, c2], ?_⟩
    by_cases c0 : (w.length : Int) < 16
    · simp [c0]
    · simp [c0, c1, c2]
  have w1 := wI (x := G w 0) (by omega) (by omega)
  have w2 := wI (x := G w 0 + 1) (by omega) (by omega)
  have w3 := wI (x := 128 * G w 0) (by omega) (by omega)
  have w4 := wI (x := 16 + 128 * G w 0) (by omega) (by omega)
  have w5 := place_eq (p := G w 0 + 1) (i := 0) (by omega) (by omega) (by omega) (by omega)
  have e3 : pl (G w 0 + 1) 0 = 16 + 128 * G w 0 := by unfold pl; omega
  have hz' : ((w.length : Int) == 0) = false := by simpa using hz
  simp only [w1, w2, w3, w4, w5, Option.bind_some, e3, hz', Bool.false_eq_true, if_false]
  by_cases c3 : (w.length : Int) < 16 + 128 * G w 0
  · refine .inr ⟨by simp [c1, c2, c3], ?_⟩
    by_cases c0 : (w.length : Int) < 16
    · simp [c0]
    · simp [c0, c1, c2, c3]
  have hs : Sz w (G w 0) := ⟨by omega, by omega, rfl, by unfold pl; omega, h1, hu⟩
  have hb := hs.big
  have hff : fits w.length 8 := by unfold fits; omega
  have hg4 := hu.G 4
  obtain ⟨l1, ok1, l1', ok1', a1, a2, a3⟩ := both_list hs 0 (G w 0).toNat 1 [] FUEL FUEL FUEL FUEL (by simp; omega) (by have := FUEL_big; omega) (by have := FUEL_big; omega)
  obtain ⟨l2, ok2, l2', ok2', b1, b2, b3⟩ := both_list hs 255 (G w 0).toNat 2 [] FUEL FUEL FUEL FUEL (by simp; omega) (by have := FUEL_big; omega) (by have := FUEL_big; omega)
  have pl1 : m_arena_Arena_list (AR w) 1 0 = some (l1, ok1, AR w) := by
    unfold m_arena_Arena_list m_arena_Arena_list_a
    simp only [mem_Load (w := w) (i := 1) (by omega) (by omega), Option.bind_some]
    exact a1
  have pl2 : m_arena_Arena_list (AR w) 2 255 = some (l2, ok2, AR w) := by
    unfold m_arena_Arena_list m_arena_Arena_list_a
    simp only [mem_Load (w := w) (i := 2) (by omega) (by omega), Option.bind_some]
    exact b1
  have rl1 : m_ticketlineref20_Arena_list (w, ()) (G w 1) 0 = some (l1', ok1', (w, ())) := a2
  have rl2 : m_ticketlineref20_Arena_list (w, ()) (G w 2) 255 = some (l2', ok2', (w, ())) := b2
  have k1 := cnt_range freeK w (G w 0).toNat
  have k2 := cnt_range usedK w (G w 0).toNat
  have k3 := cnt_range defK w (G w 0).toNat
  -- what the program looks at
  have hprog : ∀ b, m_arena_Arena_sound (AR w) = some (b, AR w) → (Option.bind (m_mem_Mem_Copy (w, ())) fun r19 => Option.bind (m_arena_Arena_sound (((r19.1.1, ()), ()), ())) fun r20 =>
        if (!r20.1) = true then some (none, (12 : Int), (r19.2.1, ())) else some ((some (((r20.2.1.1.1, ()), ()), ())), (0 : Int), (r19.2.1, ()))) = some (if b = true then some (AR w) else none, (if b = true then (0 : Int) else 12), (w, ())) := by
    intro b hb'
    simp only [mem_Copy (w := w) h0 (by omega), Option.bind_some, hb']
    cases b <;> simp
  have hsound : m_arena_Arena_sound (AR w) = (if (!ok1) = true then some (false, AR w) else if (!ok2) = true then some (false, AR w) else if ((l1.length : Int) != cnt freeK w (G w 0).toNat) = true then some (false, AR w) else
      if ((l2.length : Int) != cnt defK w (G w 0).toNat) = true then some (false, AR w) else if (cnt freeK w (G w 0).toNat + cnt usedK w (G w 0).toNat + cnt defK w (G w 0).toNat != G w 0) = true then some (false, AR w) else
      if decide (G w 4 < 1) = true then some (false, AR w) else if decide (G w 4 > 1099511627776) = true then some (false, AR w) else m_arena_Arena_sound_l0 FUEL FUEL (G w 0) (G w 4) l2.length 0 l2 w) := by
    unfold m_arena_Arena_sound m_arena_Arena_sound_a
    simp only [pl1, pl2, Option.bind_some, arena_Counts hs, mem_Load (w := w) (i := 4) (by omega) (by omega)]
    rw [wI (x := cnt freeK w (G w 0).toNat + cnt usedK w (G w 0).toNat) (by omega) (by omega), wI (x := cnt freeK w (G w 0).toNat + cnt usedK w (G w 0).toNat + cnt defK w (G w 0).toNat) (by omega) (by omega)]
  simp only [show ¬ (w.length : Int) < 16 by omega, c1, c2, c3, decide_false, Bool.false_eq_true, if_false, show (4 : Int) < w.length by omega, if_true, hff, show (1 : Int) < w.length by omega, show (2 : Int) < w.length by omega, rl1, rl2, Option.bind_some, ref_Of hs, in00, in16, in255, ref_Pages hs]
  by_cases m1 : G w 4 < 1
  · refine .inr ⟨?_, by simp [m1]⟩
    have : m_arena_Arena_sound (AR w) = some (false, AR w) := by
      rw [hsound]
      simp [m1]
    exact hprog false this
  by_cases m2 : G w 4 > 1099511627776
  · refine .inr ⟨?_, by simp [m1, m2]⟩
    have : m_arena_Arena_sound (AR w) = some (false, AR w) := by
      rw [hsound]
      simp [m2]
    exact hprog false this
  simp only [m1, m2, decide_false, Bool.false_eq_true, if_false]
  rcases a3 with ⟨o1, o1', e1, r1, q1, c1'⟩ | ⟨o1, o1'⟩
  case inr =>
    refine .inr ⟨hprog false (by rw [hsound, o1]; rfl), ?_⟩
    rcases o1' with o | o
    · simp [o]
    · cases ok1' <;> cases ok2' <;> simp
      intro h; omega
  rcases b3 with ⟨o2, o2', e2, r2, q2, c2'⟩ | ⟨o2, o2'⟩
  case inr =>
    refine .inr ⟨hprog false (by rw [hsound, o1, o2]; rfl), ?_⟩
    rcases o2' with o | o
    · simp [o]
    · cases ok1' <;> cases ok2' <;> simp
      intro _ h; omega
  subst e1 e2 o1 o2 o1' o2'
  simp only [List.nil_append] at q1 q2
  subst q1 q2
  simp only [Bool.not_true, Bool.false_eq_true, if_false] at hsound ⊢
  by_cases d1 : (l1.length : Int) = cnt freeK w (G w 0).toNat
  case neg =>
    have d1' : ((l1.length : Int) != cnt freeK w (G w 0).toNat) = true := by simpa using d1
    refine .inr ⟨hprog false (by rw [hsound, if_pos d1']), by rw [if_pos d1']⟩
  by_cases d2 : (l2.length : Int) = cnt defK w (G w 0).toNat
  case neg =>
    have d2' : ((l2.length : Int) != cnt defK w (G w 0).toNat) = true := by simpa using d2
    have d1' : ((l1.length : Int) != cnt freeK w (G w 0).toNat) = false := by simpa using d1
    refine .inr ⟨hprog false (by rw [hsound, d1']; simp [d2']), by rw [d1']; simp [d2']⟩
  have d1' : ((l1.length : Int) != cnt freeK w (G w 0).toNat) = false := by simpa using d1
  have d2' : ((l2.length : Int) != cnt defK w (G w 0).toNat) = false := by simpa using d2
  simp only [d1', d2', Bool.false_eq_true, if_false] at hsound ⊢
  rw [d1, d2, wI (x := cnt freeK w (G w 0).toNat + cnt defK w (G w 0).toNat) (by omega) (by omega), wI (x := cnt freeK w (G w 0).toNat + cnt defK w (G w 0).toNat + cnt usedK w (G w 0).toNat) (by omega) (by omega)]
  by_cases d3 : cnt freeK w (G w 0).toNat + cnt usedK w (G w 0).toNat + cnt defK w (G w 0).toNat = G w 0
  case neg =>
    have d3' : (cnt freeK w (G w 0).toNat + cnt usedK w (G w 0).toNat + cnt defK w (G w 0).toNat != G w 0) = true := by simpa using d3
    have d3'' : (cnt freeK w (G w 0).toNat + cnt defK w (G w 0).toNat + cnt usedK w (G w 0).toNat != G w 0) = true := by simp; omega
    refine .inr ⟨hprog false (by rw [hsound, if_pos d3']), by rw [if_pos d3'']⟩
  have d3' : (cnt freeK w (G w 0).toNat + cnt usedK w (G w 0).toNat + cnt defK w (G w 0).toNat != G w 0) = false := by simpa using d3
  have d3'' : (cnt freeK w (G w 0).toNat + cnt defK w (G w 0).toNat + cnt usedK w (G w 0).toNat != G w 0) = false := by simp; omega
  obtain ⟨b, s1, s2⟩ := both_marks hs l2 (by omega) l2 [] (G w 4) FUEL FUEL FUEL FUEL rfl (fun p hp => ⟨(c2'.mem p hp).1, (c2'.mem p hp).2.1⟩) (by have := FUEL_big; omega) (by have := FUEL_big; omega)
  simp only [d3', m1, m2, decide_false, Bool.false_eq_true, if_false] at hsound
  have s1' : m_arena_Arena_sound_l0 FUEL FUEL (G w 0) (G w 4) l2.length 0 l2 w = some (b, AR w) := s1
  have s2' : m_ticketlineref20_Open_l0 FUEL FUEL w (G w 4) 0 l2 w = some (if b = true then some (w, ()) else none) := s2
  rw [s1'] at hsound
  have hp := hprog b hsound
  rw [d3'']
  simp only [Bool.false_eq_true, if_false]
  cases b with
  | false => exact .inr ⟨hp, s2'⟩
  | true =>
    refine .inl ⟨G w 0, hs, ?_, hp, s2'⟩
    cases l1 with
    | nil => have : G w 1 = 0 := c1'; omega
    | cons p r => obtain ⟨x, y, z, _⟩ := c1'; omega

theorem opens_l2 (w : List Int) (hu : U64 w) (hl : w.length ≤ 65536) {v : Int} (v0 : 1 ≤ v) (v1 : v ≤ w.length) : ∀ (m fuel N : Nat) (i : Int) (t : List Int), i + m = v → 0 ≤ i → m < fuel → t.length = v.toNat → (∀ j : Int, 0 ≤ j → j < i → G t j = G w j) → m_ticketlinelaw20_ArenaOpens_l2 N fuel 0 v i w t = some true := by
  intro m
  induction m with
  | zero =>
    intro fuel N i t hm hi hf ht hj
    obtain ⟨fuel, rfl⟩ : ∃ k, fuel = k + 1 := ⟨fuel - 1, by omega⟩
    have hw : win w 0 v = t := by
      unfold win
      simp only [Int.toNat_zero, List.drop_zero]
      have hl1 : (w.take v.toNat).length = v.toNat := by rw [List.length_take]; omega
      refine ext_G (by rw [hl1, ht]) fun j a b => ?_
      rw [hl1] at b
      rw [hj j a (by omega)]
      unfold G
      rw [List.getD_eq_getElem?_getD, List.getD_eq_getElem?_getD, List.getElem?_take, if_pos (by omega)]
    have hut : U64 t := by
      rw [← hw]
      unfold win
      exact fun x hx => hu x (List.mem_of_mem_drop (List.mem_of_mem_take hx))
    simp only [m_ticketlinelaw20_ArenaOpens_l2, m_ticketlinelaw20_ArenaOpens_l2_b, show ¬ i < v by omega, decide_false, Bool.false_eq_true, if_false, hw]
    rcases open_ok hut (by omega) (by omega) with ⟨n, hs, hn, h1, h2⟩ | ⟨h1, h2⟩
    · have hp : PageOK (emptyS 1 eB eB) := empty_page (by omega) (by omega) (by decide) (by decide)
      have ha := aref_Alloc hs hp hn
      have hb := fun a b => law20_allocs hs hp hn a b
      simp only [h1, h2, Option.bind_some, bne_self_eq_false, Bool.false_eq_true, if_false, alike_same hs, Bool.not_true, show (⟨#[]⟩ : ByteArray) = eB from rfl, ref_Empty (level := 1) (low := eB) (high := eB) (by omega) (by omega) (by decide) (by decide), ha, hb]
      cases hv : validB (emptyS 1 eB eB) with
      | false => simp [alike_same hs, known20]
      | true =>
        by_cases e : G t 1 = 0
        · simp [e, alike_same hs, known20]
        · have hg := hut.G 1
          have hs2 := hs.alloc (p := emptyS 1 eB eB) hp.2 (by omega)
          simp [e, alike_same hs2, known20]
    · simp [h1, h2, m_ticketlinelaw20_fails, known20]
  | succ m ih =>
    intro fuel N i t hm hi hf ht hj
    obtain ⟨fuel, rfl⟩ : ∃ k, fuel = k + 1 := ⟨fuel - 1, by omega⟩
    simp only [m_ticketlinelaw20_ArenaOpens_l2, m_ticketlinelaw20_ArenaOpens_l2_b, show i < v by omega, decide_true, if_true, hi, mem_Store (w := t) (i := i) hi (by omega), Option.bind_some, rd_G]
    rw [wI (x := i + 1) (by omega) (by omega), show (0 : Int) + i = i by omega]
    refine ih fuel N (i + 1) _ (by omega) (by omega) (by omega) (by rw [wr_length]; exact ht) fun j a b => ?_
    rw [G_wr hi (by omega) _ a]
    by_cases e : j = i
    · rw [if_pos e, e]
    · rw [if_neg e]; exact hj j a (by omega)
theorem opens_l1 (at' to : List Int) (hat : ∀ x, x ∈ at' → 0 ≤ x ∧ x < 65536) (hto : U64 to) (h6 : at'.length ≤ 6) (hlt : at'.length ≤ to.length) {cut : Int} (hc : 0 ≤ cut ∧ cut < 65536) : ∀ (m fuel N : Nat) (i : Int) (w : List Int), i + m = at'.length → 0 ≤ i → m < fuel → 100000 < N →
    U64 w → 0 < w.length → w.length ≤ 65536 → m_ticketlinelaw20_ArenaOpens_l1 N fuel at' to cut i w = some true := by
  intro m
  induction m with
  | zero =>
    intro fuel N i w hm hi hf hN hu h0 h1
    obtain ⟨fuel, rfl⟩ : ∃ k, fuel = k + 1 := ⟨fuel - 1, by omega⟩
    simp only [m_ticketlinelaw20_ArenaOpens_l1, m_ticketlinelaw20_ArenaOpens_l1_b, show ¬ i < (at'.length : Int) by omega, decide_false, Bool.false_eq_true, if_false]
    rw [wI (x := cut) (by omega) (by omega), wI (x := (w.length : Int) - cut) (by omega) (by omega)]
    have e : 1 ≤ mx 1 ((w.length : Int) - cut) ∧ mx 1 ((w.length : Int) - cut) ≤ w.length := by unfold mx; split <;> omega
    generalize mx 1 ((w.length : Int) - cut) = v at e
    simp only [show 0 ≤ v by omega, if_true, e.2, Int.sub_zero, law20_memory (n := v) e.1 (by omega), Option.bind_some]
    exact opens_l2 w hu h1 e.1 e.2 v.toNat N N 0 _ (by omega) (by omega) (by omega) (rep_len _) (fun j a b => by omega)
  | succ m ih =>
    intro fuel N i w hm hi hf hN hu h0 h1
    obtain ⟨fuel, rfl⟩ : ∃ k, fuel = k + 1 := ⟨fuel - 1, by omega⟩
    have ha := G_range (l := at') (lo := 0) (hi := 65536) (by omega) (by omega) hat i
    have ht := hto.G i
    have hm1 : Int.tmod (G at' i) (w.length : Int) = G at' i % w.length := Int.tmod_eq_emod_of_nonneg ha.1
    have hm2 : 0 ≤ G at' i % (w.length : Int) ∧ G at' i % (w.length : Int) < w.length := ⟨Int.emod_nonneg _ (by omega), Int.emod_lt_of_pos _ (by omega)⟩
    simp only [m_ticketlinelaw20_ArenaOpens_l1, m_ticketlinelaw20_ArenaOpens_l1_b, show i < (at'.length : Int) by omega, decide_true, if_true, hi, rd_G]
    have w1 := wI (x := G at' i) (by omega) (by omega)
    have w2 := wI (x := i + 1) (by omega) (by omega)
    simp only [w1, hm1, w2, show (w.length : Int) ≠ 0 by omega, ne_eq, not_false_eq_true, if_true, show i < (to.length : Int) by omega, hm2.1, hm2.2]
    exact ih fuel N (i + 1) _ (by omega) (by omega) (by omega) hN (U64_wr hu (G at' i % w.length) ht.1 ht.2) (by rw [List.length_set]; exact h0) (by rw [List.length_set]; exact h1)
theorem opens_l0 {n : Int} (l : List Act) (hl : ∀ a, a ∈ l → PlnOK a.2.2.1) (hl2 : l.length ≤ 16) (at' to : List Int) (hat : ∀ x, x ∈ at' → 0 ≤ x ∧ x < 65536) (hto : U64 to) (h6 : at'.length ≤ 6) (hlt : at'.length ≤ to.length) {cut : Int} (hc : 0 ≤ cut ∧ cut < 65536) :
    ∀ (m fuel N : Nat) (i : Int) (w fl dl : List Int), i + m = l.length → 0 ≤ i → m < fuel → 100000 < N → AI w n fl dl → m_ticketlinelaw20_ArenaOpens_l0 N fuel l at' to cut i w w = some true := by
  intro m
  induction m with
  | zero =>
    intro fuel N i w fl dl hm hi hf hN h
    obtain ⟨fuel, rfl⟩ : ∃ k, fuel = k + 1 := ⟨fuel - 1, by omega⟩
    have hb := h.sz.big
    have hlen := h.sz.len
    have hff : fits w.length 8 := by unfold fits; omega
    simp only [m_ticketlinelaw20_ArenaOpens_l0, m_ticketlinelaw20_ArenaOpens_l0_b, show ¬ i < (l.length : Int) by omega, decide_false, Bool.false_eq_true, if_false, hff, if_true]
    exact opens_l1 at' to hat hto h6 hlt hc at'.length N N 0 w (by omega) (by omega) (by omega) hN h.sz.u (by omega) hlen
  | succ m ih =>
    intro fuel N i w fl dl hm hi hf hN h
    obtain ⟨fuel, rfl⟩ : ∃ k, fuel = k + 1 := ⟨fuel - 1, by omega⟩
    have hlt' : i < (l.length : Int) := by omega
    have hmem := rd_act hi hlt'
    obtain ⟨v, fl', dl', hd, hv⟩ := does_ok h (hl _ hmem)
    simp only [m_ticketlinelaw20_ArenaOpens_l0, m_ticketlinelaw20_ArenaOpens_l0_b, hlt', decide_true, if_true, hi, hd, Option.bind_some, Bool.not_true, Bool.false_eq_true, if_false]
    rw [wI (x := i + 1) (by omega) (by omega)]
    exact ih fuel N (i + 1) v fl' dl' (by omega) (by omega) (by omega) hN hv
theorem arenaOpens_true (pages : Int) {more cut : Int} (hm : 0 ≤ more ∧ more < 256) {l : List Act} (hl : ∀ a, a ∈ l → PlnOK a.2.2.1) {at' to : List Int} (hat : ∀ x, x ∈ at' → 0 ≤ x ∧ x < 65536) (hto : U64 to) (hc : 0 ≤ cut ∧ cut < 65536) :
    m_ticketlinelaw20_ArenaOpens pages more l at' to cut = some true := by
  unfold m_ticketlinelaw20_ArenaOpens m_ticketlinelaw20_ArenaOpens_a
  by_cases h1 : pages < 1
  · simp [h1, known20]
  by_cases h2 : pages > 6
  · simp [h1, h2, known20]
  by_cases h3 : (l.length : Int) > 16
  · simp [h1, h2, h3, known20]
  by_cases h4 : (at'.length : Int) > 6
  · simp [h1, h2, h3, h4, known20]
  by_cases h5 : (to.length : Int) < at'.length
  · simp [h1, h2, h3, h4, h5, known20]
  obtain ⟨w, fl, hb, hw, _⟩ := begun_ok (pages := pages) (by omega) (by omega) hm.1 hm.2
  rw [if_neg (by simpa using h1), if_neg (by simpa using h2), if_neg (by simpa using h3), if_neg (by simpa using h4), if_neg (by simpa using h5), hb]
  simp only [Option.bind_some]
  exact opens_l0 l hl (by omega) at' to hat hto (by omega) (by omega) hc l.length FUEL FUEL 0 w fl [] (by omega) (by omega) (by have := FUEL_big; omega) (by have := FUEL_big; omega) hw
end Go.Ev.L
