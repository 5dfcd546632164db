/- Arenas: Reclaim, the program's and the reference's. -/
import Derived.Test.YtbmdoalneeeonaaA6
set_option linter.unusedVariables false
set_option linter.unusedSimpArgs false
namespace Go.Ev.L
open Go Go.Ev Go.Ev.M

theorem G_app (pre : List Int) (q : Int) (r : List Int) : G (pre ++ q :: r) pre.length = q := by
  unfold G
  rw [show ((pre.length : Nat) : Int).toNat = pre.length by omega, List.getD_eq_getElem?_getD, List.getElem?_append_right (by omega)]
  simp
theorem recl_keep {w : List Int} {n below : Int} (hs : Sz w n) (b0 : 0 ≤ below) (b1 : below ≤ 1099511627776) (dl fs : List Int) : ∀ (ks pre : List Int) (fuel N : Nat) (L c : Int), dl = pre ++ (ks ++ fs) → dl.length ≤ 600 → (∀ q ∈ ks, 1 ≤ q ∧ q ≤ n ∧ below ≤ mrk w q) →
    m_arena_Arena_Reclaim_l0 N (fuel + ks.length) below L c dl.length pre.length dl w = m_arena_Arena_Reclaim_l0 N fuel below (lastpos L ks) c dl.length (pre.length + ks.length : Nat) dl w := by
  intro ks
  induction ks with
  | nil => intro pre fuel N L c hd hl hk; rfl
  | cons q ks ih =>
    intro pre fuel N L c hd hl hk
    have hlen : dl.length = pre.length + ((ks.length + 1) + fs.length) := by rw [hd]; simp <;> omega
    obtain ⟨q1, q2, q3⟩ := hk q (List.mem_cons_self ..)
    obtain ⟨x1, x2, x3⟩ := (hs.fit q1 q2).at (i := 11) (by omega) (by omega)
    have x4 := ((hs.fit q1 q2).at (i := 10) (by omega) (by omega)).2.2
    have hg : G dl pre.length = q := by rw [hd]; exact G_app pre q (ks ++ fs)
    have q3' : G w (pl q 11) ≥ below := q3
    have hnext := ih (pre ++ [q]) fuel N (pl q 10) c (by rw [hd]; simp) hl (fun z hz => hk z (List.mem_cons_of_mem _ hz))
    have e1 : (pre ++ [q]).length = pre.length + 1 := by simp
    rw [e1] at hnext
    rw [show fuel + (q :: ks).length = (fuel + ks.length) + 1 by simp; omega, show pre.length + (q :: ks).length = pre.length + 1 + ks.length by simp; omega]
    simp only [m_arena_Arena_Reclaim_l0, m_arena_Arena_Reclaim_l0_b, show (pre.length : Int) < dl.length by omega, decide_true, if_true, show (0 : Int) ≤ pre.length by omega, rd_G, hg, x3, x4, Option.bind_some, mem_Load (w := w) (i := pl q 11) (by omega) x2]
    rw [wU (x := below) (by omega) (by omega), wI (x := (pre.length : Int) + 1) (by omega) (by omega)]
    simp only [q3', decide_true, if_true]
    exact hnext
theorem recl_free {n below : Int} (b0 : 0 ≤ below) (b1 : below ≤ 1099511627776) (dl ks : List Int) : ∀ (fs pre : List Int) (fuel N : Nat) (c : Int) (w : List Int) (fl : List Int), dl = pre ++ fs → dl.length ≤ 600 → AI w n fl (ks ++ fs) → (∀ q ∈ fs, mrk w q < below) → 0 ≤ c → c + fs.length ≤ 600 →
    fs.length < fuel → m_arena_Arena_Reclaim_l0 N fuel below (lastpos 2 ks) c dl.length pre.length dl w = some (c + fs.length, (0 : Int), AR (progF (lastpos 2 ks) w fs)) ∧ AI (progF (lastpos 2 ks) w fs) n (fs.reverse ++ fl) ks := by
  intro fs
  induction fs with
  | nil =>
    intro pre fuel N c w fl hd hl h hm c0 c1 hf
    obtain ⟨fuel, rfl⟩ : ∃ i, fuel = i + 1 := ⟨fuel - 1, by omega⟩
    have hlen : dl.length = pre.length := by rw [hd]; simp <;> omega
    refine ⟨?_, by simpa [progF] using h⟩
    simp only [m_arena_Arena_Reclaim_l0, m_arena_Arena_Reclaim_l0_b, show ¬ (pre.length : Int) < dl.length by omega, decide_false, Bool.false_eq_true, if_false]
    simp [progF]
  | cons p r ih =>
    intro pre fuel N c w fl hd hl h hm c0 c1 hf
    obtain ⟨fuel, rfl⟩ : ∃ i, fuel = i + 1 := ⟨fuel - 1, by omega⟩
    have hs := h.sz
    have hlen : dl.length = pre.length + (r.length + 1) := by rw [hd]; simp <;> omega
    have hmem := h.defd.mem
    have c2 : c + r.length + 1 ≤ 600 := by simp only [List.length_cons] at c1; omega
    obtain ⟨q1, q2, q3⟩ := hmem p (List.mem_append_right _ (List.mem_cons_self ..))
    obtain ⟨x1, x2, x3⟩ := (hs.fit q1 q2).at (i := 11) (by omega) (by omega)
    obtain ⟨y1, y2, y3⟩ := (hs.fit q1 q2).at (i := 10) (by omega) (by omega)
    have hg : G dl pre.length = p := by rw [hd]; exact G_app pre p r
    have hp : ¬ G w (pl p 11) ≥ below := by have := hm p (List.mem_cons_self ..); unfold mrk at this; omega
    have hLP : LP n (lastpos 2 ks) := lastpos_LP fun q hq => ⟨(hmem q (List.mem_append_left _ hq)).1, (hmem q (List.mem_append_left _ hq)).2.1⟩
    obtain ⟨a0, a1⟩ := hLP.range hs
    have hgv := hs.u.G (pl p 10)
    have hs2 := hs.wr (i := lastpos 2 ks) (v := G w (pl p 10)) (by omega) a1 hgv.1 hgv.2
    have hu := h.unlink
    have hnd := List.nodup_append.1 h.dnd
    obtain ⟨pr, nr⟩ := List.nodup_cons.1 hnd.2.1
    have hm2 : ∀ q ∈ r, mrk (freeW (wr w (lastpos 2 ks) (G w (pl p 10))) p) q < below := fun q hq => by
      obtain ⟨z1, z2, _⟩ := hmem q (List.mem_append_right _ (List.mem_cons_of_mem _ hq))
      have hne : q ≠ p := fun e => pr (e ▸ hq)
      have hbz := (hs.fit z1 z2).at (i := 11) (by omega) (by omega)
      unfold mrk
      rw [G_free_pl hs2 q1 q2 z1 z2 (by omega) (by omega), if_neg hne, G_wr_ne (by omega) a1 _ (by omega) (hLP.ne z1 (by omega) (by omega) (.inl (by omega))).symm]
      exact hm q (List.mem_cons_of_mem _ hq)
    have hnext := ih (pre ++ [p]) fuel N (c + 1) _ (p :: fl) (by rw [hd]; simp) hl hu hm2 (by omega) (by omega) (by simp at hf; omega)
    have e1 : (pre ++ [p]).length = pre.length + 1 := by simp
    rw [e1] at hnext
    refine ⟨?_, by have := hnext.2; simp only [List.reverse_cons, List.append_assoc, List.singleton_append]; exact this⟩
    simp only [m_arena_Arena_Reclaim_l0, m_arena_Arena_Reclaim_l0_b, show (pre.length : Int) < dl.length by omega, decide_true, if_true, show (0 : Int) ≤ pre.length by omega, rd_G, hg, x3, y3, Option.bind_some, mem_Load (w := w) (i := pl p 11) (by omega) x2]
    rw [wU (x := below) (by omega) (by omega), wI (x := (pre.length : Int) + 1) (by omega) (by omega), wI (x := c + 1) (by omega) (by omega)]
    simp only [hp, decide_false, Bool.false_eq_true, if_false, mem_Load (w := w) (i := pl p 10) (by omega) y2, Option.bind_some, mem_Store (w := w) (i := lastpos 2 ks) (by omega) a1, arena_free hs2 q1 q2]
    refine hnext.1.trans ?_
    rw [show (c + 1 + (r.length : Int)) = c + ((p :: r).length : Nat) by simp; omega]
    rfl

theorem aref_put {w : List Int} {page : Int} (h : Fit w page) (p : List Int) : m_ticketlineref20_Arena_put (w, ()) page p = some (putW w page p, ()) := by
  have hp := h.lo; have hp2 := h.hi
  have key : ∀ (m n N : Nat) (i : Int) (w : List Int), Fit w page → i + m = 128 → 0 ≤ i → m < n → m_ticketlineref20_Arena_put_l0 N n page i p w = some (putFrom w page p i, ()) := by
    intro m
    induction m with
    | zero =>
      intro n N i w hw hm hi hn
      obtain ⟨n, rfl⟩ : ∃ k, n = k + 1 := ⟨n - 1, by omega⟩
      have e : i = 128 := by omega
      subst e
      simp only [m_ticketlineref20_Arena_put_l0, m_ticketlineref20_Arena_put_l0_b]
      simp [putFrom_end]
    | succ m ih =>
      intro n N i w hw hm hi hn
      obtain ⟨n, rfl⟩ : ∃ k, n = k + 1 := ⟨n - 1, by omega⟩
      obtain ⟨a, b, c⟩ := hw.at hi (show i < 128 by omega)
      simp only [m_ticketlineref20_Arena_put_l0, m_ticketlineref20_Arena_put_l0_b]
      simp only [show i < 128 by omega, decide_true, if_true, ref_at (p := page) (i := i) (by omega) (by omega) (by omega) (by omega), Option.bind_some, hi, show 0 ≤ pl page i by omega, b, rd_G]
      rw [wI (x := i + 1) (by omega) (by omega)]
      have := ih n N (i + 1) _ (hw.wr (pl page i) (G p i)) (by omega) (by omega) (by omega)
      rw [putFrom_step hw p hi (by omega)] at this
      exact this
  unfold m_ticketlineref20_Arena_put m_ticketlineref20_Arena_put_a
  exact key 120 FUEL FUEL 8 w h (by omega) (by omega) (by have := FUEL_big; omega)
theorem aref_free {w : List Int} {n p : Int} (hs : Sz w n) (h0 : 1 ≤ p) (h1 : p ≤ n) : m_ticketlineref20_Arena_free (w, ()) p = some (freeW w p, ()) := by
  have hb := hs.big; have hh := hs.hi
  have hf := hs.fit h0 h1
  have e : m_ticketlineref20_Arena_put (w, ()) p ((List.replicate 128 (0 : Int)).set 10 (G w 1)) = some (putW w p (freeP (G w 1)), ()) := aref_put hf _
  unfold m_ticketlineref20_Arena_free
  simp only [show (1 : Int) < w.length by omega, if_true, rd_G, e, Option.bind_some, putW_length]
  rw [wU (x := p) (by omega) (by omega)]
  rfl
theorem rlist_l0 {w : List Int} {n : Int} (hs : Sz w n) (k : Int) : ∀ (l : List Int) (pos : Int) (acc : List Int) (fuel N : Nat), Ch w n k pos l → (acc.length : Int) + l.length ≤ n → l.length < fuel →
    m_ticketlineref20_Arena_list_l0 N fuel k (G w pos) acc w = some (acc ++ l, true, (w, ())) := by
  have hh := hs.hi; have hb := hs.big; have hlo := hs.lo
  intro l
  induction l with
  | nil =>
    intro pos acc fuel N h hl hf
    obtain ⟨fuel, rfl⟩ : ∃ i, fuel = i + 1 := ⟨fuel - 1, by omega⟩
    have h : G w pos = 0 := h
    simp only [m_ticketlineref20_Arena_list_l0, m_ticketlineref20_Arena_list_l0_b, h, bne_self_eq_false, Bool.false_eq_true, if_false, List.append_nil]
  | cons p r ih =>
    intro pos acc fuel N h hl hf
    obtain ⟨fuel, rfl⟩ : ∃ i, fuel = i + 1 := ⟨fuel - 1, by omega⟩
    obtain ⟨a, b, c, d, e⟩ := h
    simp only [List.length_cons] at hl hf
    have hfit := hs.fit b c
    obtain ⟨x1, x2, x3⟩ := hfit.at (i := 10) (by omega) (by omega)
    obtain ⟨y1, y2, y3⟩ := hfit.at (i := 8) (by omega) (by omega)
    have hff : fits (acc.length + 1) 8 := by unfold fits; omega
    have hn : ¬ (acc.length : Int) > n := by omega
    have d : G w (pl p 8) = k := d
    simp only [m_ticketlineref20_Arena_list_l0, m_ticketlineref20_Arena_list_l0_b, a]
    rw [if_pos (by simp; omega), if_pos (show (0 : Int) < w.length by omega), wI (x := p) (by omega) (by omega)]
    simp only [rd_G, hs.pages, show ¬ p > n by omega, decide_false, Bool.false_eq_true, if_false, ref_Pages hs, Option.bind_some, hn, ref_at (p := p) (i := 8) (by omega) (by omega) (by omega) (by omega), show 0 ≤ pl p 8 by omega, y2, if_true, d,
      bne_self_eq_false, List.length_singleton, hff, ref_at (p := p) (i := 10) (by omega) (by omega) (by omega) (by omega), show 0 ≤ pl p 10 by omega, x2]
    rw [ih (pl p 10) (acc ++ [p]) fuel N e (by simp; omega) (by omega)]
    simp
theorem rrecl_keep {w : List Int} {n below : Int} (hs : Sz w n) (b0 : 0 ≤ below) (b1 : below ≤ 1099511627776) (dl fs : List Int) : ∀ (ks pre acc : List Int) (fuel N : Nat) (c : Int), dl = pre ++ (ks ++ fs) → dl.length ≤ 600 → acc.length ≤ pre.length → (∀ q ∈ ks, 1 ≤ q ∧ q ≤ n ∧ below ≤ mrk w q) →
    m_ticketlineref20_Arena_Reclaim_l0 N (fuel + ks.length) below c pre.length dl acc w = m_ticketlineref20_Arena_Reclaim_l0 N fuel below c (pre.length + ks.length : Nat) dl (acc ++ ks) w := by
  intro ks
  induction ks with
  | nil => intro pre acc fuel N c hd hl ha hk; simp
  | cons q ks ih =>
    intro pre acc fuel N c hd hl ha hk
    have hh := hs.hi
    have hlen : dl.length = pre.length + ((ks.length + 1) + fs.length) := by rw [hd]; simp <;> omega
    obtain ⟨q1, q2, q3⟩ := hk q (List.mem_cons_self ..)
    obtain ⟨x1, x2, x3⟩ := (hs.fit q1 q2).at (i := 11) (by omega) (by omega)
    have hg : G dl pre.length = q := by rw [hd]; exact G_app pre q (ks ++ fs)
    have q3' : ¬ G w (pl q 11) < below := by unfold mrk at q3; omega
    have hff : fits (acc.length + 1) 8 := by unfold fits; omega
    have hnext := ih (pre ++ [q]) (acc ++ [q]) fuel N c (by rw [hd]; simp) hl (by simp; omega) (fun z hz => hk z (List.mem_cons_of_mem _ hz))
    have e1 : (pre ++ [q]).length = pre.length + 1 := by simp
    rw [e1] at hnext
    rw [show fuel + (q :: ks).length = (fuel + ks.length) + 1 by simp; omega, show pre.length + (q :: ks).length = pre.length + 1 + ks.length by simp; omega]
    simp only [m_ticketlineref20_Arena_Reclaim_l0, m_ticketlineref20_Arena_Reclaim_l0_b, show (pre.length : Int) < dl.length by omega, decide_true, if_true, show (0 : Int) ≤ pre.length by omega, rd_G, hg, ref_at (p := q) (i := 11) (by omega) (by omega) (by omega) (by omega), Option.bind_some,
      show 0 ≤ pl q 11 by omega, x2]
    rw [wU (x := below) (by omega) (by omega), wI (x := (pre.length : Int) + 1) (by omega) (by omega)]
    simp only [q3', decide_false, Bool.false_eq_true, if_false, List.length_singleton, hff, if_true]
    refine Eq.trans ?_ (hnext.trans ?_)
    · rfl
    · simp
theorem lastpos_last : ∀ (ks : List Int) (pos : Int), ks ≠ [] → lastpos pos ks = pl (G ks ((ks.length : Int) - 1)) 10 := by
  intro ks
  induction ks with
  | nil => intro pos h; exact absurd rfl h
  | cons q r ih =>
    intro pos _
    cases r with
    | nil => rfl
    | cons x s =>
      show lastpos (pl q 10) (x :: s) = _
      rw [ih (pl q 10) (by simp)]
      have e : G (q :: x :: s) (((q :: x :: s).length : Int) - 1) = G (x :: s) (((x :: s).length : Int) - 1) := by
        unfold G
        simp only [List.length_cons]
        rw [show (((s.length + 1 + 1 : Nat) : Int) - 1).toNat = s.length + 1 by omega, show (((s.length + 1 : Nat) : Int) - 1).toNat = s.length by omega, List.getD_cons_succ]
      rw [e]
theorem rrecl_free {n below : Int} (b0 : 0 ≤ below) (b1 : below ≤ 1099511627776) (dl ks : List Int) (hks : ∀ q ∈ ks, 1 ≤ q ∧ q ≤ n) (hkl : ks.length ≤ 600) : ∀ (fs pre : List Int) (fuel N : Nat) (c : Int) (w : List Int), dl = pre ++ fs → dl.length ≤ 600 → Sz w n → fs.Nodup → (∀ q ∈ fs, 1 ≤ q ∧ q ≤ n ∧ mrk w q < below) → 0 ≤ c → c + fs.length ≤ 600 →
    fs.length < fuel → m_ticketlineref20_Arena_Reclaim_l0 N fuel below c pre.length dl ks w = some (c + fs.length, (0 : Int), (wr (refF w fs) (lastpos 2 ks) 0, ())) := by
  intro fs
  induction fs with
  | nil =>
    intro pre fuel N c w hd hl hs hn hm c0 c1 hf
    obtain ⟨fuel, rfl⟩ : ∃ i, fuel = i + 1 := ⟨fuel - 1, by omega⟩
    have hlen : dl.length = pre.length := by rw [hd]; simp <;> omega
    have hb := hs.big
    have hh := hs.hi
    simp only [m_ticketlineref20_Arena_Reclaim_l0, m_ticketlineref20_Arena_Reclaim_l0_b, show ¬ (pre.length : Int) < dl.length by omega, decide_false, Bool.false_eq_true, if_false]
    by_cases e : ks = []
    · subst e
      simp [refF, lastpos, wr, show (2 : Int) < w.length by omega]
    · have hpos : 0 < ks.length := List.length_pos_iff.2 e
      have hlt : ((ks.length : Int) - 1).toNat < ks.length := by omega
      have hgm : G ks ((ks.length : Int) - 1) ∈ ks := by
        have := G_get hlt
        rw [show ((((ks.length : Int) - 1).toNat : Nat) : Int) = (ks.length : Int) - 1 by omega] at this
        rw [this]; exact List.getElem_mem ..
      obtain ⟨k1, k2⟩ := hks _ hgm
      obtain ⟨x1, x2, x3⟩ := (hs.fit k1 k2).at (i := 10) (by omega) (by omega)
      rw [if_neg (by simp; exact e), wI (x := (ks.length : Int) - 1) (by omega) (by omega)]
      simp only [show (0 : Int) ≤ (ks.length : Int) - 1 by omega, if_true, show (ks.length : Int) - 1 < ks.length by omega, rd_G, ref_at (p := G ks ((ks.length : Int) - 1)) (i := 10) (by omega) (by omega) (by omega) (by omega), Option.bind_some, show 0 ≤ pl (G ks ((ks.length : Int) - 1)) 10 by omega, x2]
      rw [lastpos_last ks 2 e]
      simp [refF, wr]
  | cons p r ih =>
    intro pre fuel N c w hd hl hs hn hm c0 c1 hf
    obtain ⟨fuel, rfl⟩ : ∃ i, fuel = i + 1 := ⟨fuel - 1, by omega⟩
    have hh := hs.hi
    have hlen : dl.length = pre.length + (r.length + 1) := by rw [hd]; simp <;> omega
    have c2 : c + r.length + 1 ≤ 600 := by simp only [List.length_cons] at c1; omega
    obtain ⟨q1, q2, q3⟩ := hm p (List.mem_cons_self ..)
    obtain ⟨x1, x2, x3⟩ := (hs.fit q1 q2).at (i := 11) (by omega) (by omega)
    have hg : G dl pre.length = p := by rw [hd]; exact G_app pre p r
    obtain ⟨pr, nr⟩ := List.nodup_cons.1 hn
    have q3' : G w (pl p 11) < below := q3
    have hm2 : ∀ q ∈ r, 1 ≤ q ∧ q ≤ n ∧ mrk (freeW w p) q < below := fun q hq => by
      obtain ⟨z1, z2, z3⟩ := hm q (List.mem_cons_of_mem _ hq)
      have hne : q ≠ p := fun e => pr (e ▸ hq)
      refine ⟨z1, z2, ?_⟩
      unfold mrk
      rw [G_free_pl hs q1 q2 z1 z2 (by omega) (by omega), if_neg hne]
      exact z3
    have hnext := ih (pre ++ [p]) fuel N (c + 1) _ (by rw [hd]; simp) hl (hs.free q1 q2) nr hm2 (by omega) (by omega) (by simp at hf; omega)
    have e1 : (pre ++ [p]).length = pre.length + 1 := by simp
    rw [e1] at hnext
    simp only [m_ticketlineref20_Arena_Reclaim_l0, m_ticketlineref20_Arena_Reclaim_l0_b, show (pre.length : Int) < dl.length by omega, decide_true, if_true, show (0 : Int) ≤ pre.length by omega, rd_G, hg, ref_at (p := p) (i := 11) (by omega) (by omega) (by omega) (by omega), Option.bind_some,
      show 0 ≤ pl p 11 by omega, x2]
    rw [wU (x := below) (by omega) (by omega), wI (x := (pre.length : Int) + 1) (by omega) (by omega), wI (x := c + 1) (by omega) (by omega)]
    simp only [q3', decide_true, if_true, aref_free hs q1 q2, Option.bind_some]
    refine hnext.trans ?_
    rw [show (c + 1 + (r.length : Int)) = c + ((p :: r).length : Nat) by simp; omega]
    rfl

/-- the marks of deferred pages part them into two rows -/
theorem Mk.split {w : List Int} (below : Int) : ∀ {l : List Int} {b : Int}, Mk w b l → ∃ ks fs, l = ks ++ fs ∧ (∀ q ∈ ks, below ≤ mrk w q) ∧ (∀ q ∈ fs, mrk w q < below) := by
  intro l
  induction l with
  | nil => intro b _; exact ⟨[], [], rfl, (fun q h => by cases h), (fun q h => by cases h)⟩
  | cons p r ih =>
    intro b h
    obtain ⟨x, y, z⟩ := h
    by_cases e : below ≤ mrk w p
    · obtain ⟨ks, fs, h1, h2, h3⟩ := ih z
      refine ⟨p :: ks, fs, by rw [h1]; rfl, fun q hq => ?_, h3⟩
      rcases List.mem_cons.1 hq with rfl | hq
      · exact e
      · exact h2 q hq
    · refine ⟨[], p :: r, rfl, (fun q h => by cases h), fun q hq => ?_⟩
      rcases List.mem_cons.1 hq with rfl | hq
      · omega
      · have := (z.lt q hq).2; omega
theorem arena_Reclaim {w : List Int} {n below : Int} {fl dl : List Int} (h : AI w n fl dl) (b0 : 0 ≤ below) (b1 : below ≤ 1099511627776) :
    ∃ ks fs w', dl = ks ++ fs ∧ (∀ q ∈ ks, below ≤ mrk w q) ∧ (∀ q ∈ fs, mrk w q < below) ∧ m_arena_Arena_Reclaim (AR w) below = some ((fs.length : Int), (0 : Int), AR w') ∧
      m_ticketlineref20_Arena_Reclaim (w, ()) below = some ((fs.length : Int), (0 : Int), (w', ())) ∧ AI w' n (fs.reverse ++ fl) ks ∧
      (∀ x i : Int, 1 ≤ x → x ≤ n → usedK (K w x) = true → 8 ≤ i → i < 128 → G w' (pl x i) = G w (pl x i)) ∧ (∀ x, 1 ≤ x → x ≤ n → x ∉ fs → mrk w' x = mrk w x) := by
  obtain ⟨ks, fs, e, hk, hf⟩ := h.marks.split below
  subst e
  have hs := h.sz
  have hb := hs.big; have hh := hs.hi
  have hmem := h.defd.mem
  have hkm : ∀ q ∈ ks, 1 ≤ q ∧ q ≤ n := fun q hq => ⟨(hmem q (List.mem_append_left _ hq)).1, (hmem q (List.mem_append_left _ hq)).2.1⟩
  have hLP := lastpos_LP hkm
  have hll := h.len_le.2
  have hlen : (ks ++ fs).length = ks.length + fs.length := by simp
  have hnd := List.nodup_append.1 h.dnd
  have hfd : ∀ p ∈ fs, 1 ≤ p ∧ p ≤ n ∧ lastpos 2 ks ≠ pl p 10 := fun p hp => by
    obtain ⟨p1, p2, _⟩ := hmem p (List.mem_append_right _ hp)
    refine ⟨p1, p2, fun e => ?_⟩
    rcases lastpos_mem ks 2 with ⟨_, e2⟩ | ⟨z, hz, e2⟩
    · rw [e2] at e; unfold pl at e; omega
    · rw [e2] at e
      have : z = p := by unfold pl at e; omega
      exact hnd.2.2 z hz p hp this
  have hfree := recl_free (n := n) b0 b1 (ks ++ fs) ks fs ks (FUEL - ks.length) FUEL 0 w fl rfl (by omega) h hf (by omega) (by omega) (by have := FUEL_big; omega)
  have hkeep := recl_keep hs b0 b1 (ks ++ fs) fs ks [] (FUEL - ks.length) FUEL 2 0 rfl (by omega) (fun q hq => ⟨(hkm q hq).1, (hkm q hq).2, hk q hq⟩)
  have efuel : FUEL - ks.length + ks.length = FUEL := by have := FUEL_big; omega
  rw [efuel] at hkeep
  have hrk := rrecl_keep hs b0 b1 (ks ++ fs) fs ks [] [] (FUEL - ks.length) FUEL 0 rfl (by omega) (by simp) (fun q hq => ⟨(hkm q hq).1, (hkm q hq).2, hk q hq⟩)
  rw [efuel] at hrk
  have hrf := rrecl_free (n := n) b0 b1 (ks ++ fs) ks hkm (by omega) fs ks (FUEL - ks.length) FUEL 0 w rfl (by omega) hs hnd.2.1 (fun q hq => ⟨(hfd q hq).1, (hfd q hq).2.1, hf q hq⟩) (by omega) (by omega) (by have := FUEL_big; omega)
  have hsame : wr (refF w fs) (lastpos 2 ks) 0 = progF (lastpos 2 ks) w fs := by
    by_cases e : fs = []
    · subst e
      obtain ⟨a0, a1⟩ := hLP.range hs
      have hz : G w (lastpos 2 ks) = 0 := by have := h.defd.last; simpa using this
      show wr w (lastpos 2 ks) 0 = w
      refine ext_G (wr_length _ _ _) fun j hj hj2 => ?_
      rw [G_wr (by omega) a1 _ hj]
      split
      · rename_i e2; rw [e2, hz]
      · rfl
    · have hz : G w (lastpos (lastpos 2 ks) fs) = 0 := by rw [← lastpos_append]; exact h.defd.last
      exact (progF_eq hLP hs e hnd.2.1 hfd hz).symm
  refine ⟨ks, fs, progF (lastpos 2 ks) w fs, rfl, hk, hf, ?_, ?_, hfree.2, fun x i x1 x2 xu i0 i1 => ?_, fun x x1 x2 xf => ?_⟩
  · unfold m_arena_Arena_Reclaim m_arena_Arena_Reclaim_a
    rw [if_neg (by simp; omega), if_neg (by simp; omega)]
    simp only [arena_list_def h, Option.bind_some]
    refine Eq.trans ?_ (hkeep.trans ?_)
    · rfl
    · simp only [List.length_nil, Nat.zero_add]
      refine hfree.1.trans ?_
      simp
  · unfold m_ticketlineref20_Arena_Reclaim m_ticketlineref20_Arena_Reclaim_a
    rw [if_neg (by simp; omega), if_neg (by simp; omega), if_pos (show (2 : Int) < w.length by omega)]
    have hl : m_ticketlineref20_Arena_list (w, ()) (rd (.int .u64) w 2) 255 = some (ks ++ fs, true, (w, ())) := by
      unfold m_ticketlineref20_Arena_list m_ticketlineref20_Arena_list_a
      have := rlist_l0 hs 255 (ks ++ fs) 2 [] FUEL FUEL h.defd (by simp at hll ⊢; omega) (by have := FUEL_big; omega)
      simpa [rd_G] using this
    simp only [hl, Option.bind_some]
    refine Eq.trans ?_ (hrk.trans ?_)
    · rfl
    · simp only [List.length_nil, Nat.zero_add, List.nil_append]
      refine hrf.trans ?_
      rw [hsame]
      simp
  · have xnf : x ∉ fs := fun hx => by
      have := (hmem x (List.mem_append_right _ hx)).2.2
      rw [this] at xu
      exact absurd xu (by decide)
    refine G_progF hLP hs hfd x i x1 x2 xnf i0 i1 (hLP.ne x1 i0 i1 (.inr fun e => ?_))
    rcases lastpos_mem ks 2 with ⟨_, e2⟩ | ⟨z, hz, e2⟩
    · rw [e2] at e; unfold pl at e; omega
    · rw [e2] at e
      have : z = x := by unfold pl at e; omega
      subst this
      have := (hmem z (List.mem_append_left _ hz)).2.2
      rw [this] at xu
      exact absurd xu (by decide)
  · unfold mrk
    exact G_progF hLP hs hfd x 11 x1 x2 xf (by omega) (by omega) (hLP.ne x1 (by omega) (by omega) (.inl (by omega)))
end Go.Ev.L
