/- Arenas: deferred pages are reclaimed; the reference does the same. -/
import Derived.Test.YtbmdoalneeeonaaA5
set_option linter.unusedVariables false
set_option linter.unusedSimpArgs false
namespace Go.Ev.L
open Go Go.Ev Go.Ev.M

/-- where the link behind some pages is -/
def lastpos : Int → List Int → Int
  | pos, [] => pos
  | _, q :: r => lastpos (pl q 10) r
theorem lastpos_mem : ∀ (ks : List Int) (pos : Int), (ks = [] ∧ lastpos pos ks = pos) ∨ ∃ z ∈ ks, lastpos pos ks = pl z 10 := by
  intro ks
  induction ks with
  | nil => intro pos; exact .inl ⟨rfl, rfl⟩
  | cons q r ih =>
    intro pos
    rcases ih (pl q 10) with ⟨e, e2⟩ | ⟨z, hz, e⟩
    · exact .inr ⟨q, List.mem_cons_self .., e2⟩
    · exact .inr ⟨z, List.mem_cons_of_mem _ hz, e⟩
theorem lastpos_append (ks : List Int) : ∀ (pos : Int) (r : List Int), lastpos pos (ks ++ r) = lastpos (lastpos pos ks) r := by
  induction ks with
  | nil => intro pos r; rfl
  | cons q s ih => intro pos r; exact ih (pl q 10) r
theorem Ch.last {w : List Int} {n k : Int} : ∀ {l : List Int} {pos : Int}, Ch w n k pos l → G w (lastpos pos l) = 0 := by
  intro l
  induction l with
  | nil => intro pos h; exact h
  | cons p r ih => intro pos h; exact ih h.2.2.2.2
/-- a place of a link: the head's, or a page's -/
def LP (n L : Int) : Prop := L = 2 ∨ ∃ z, 1 ≤ z ∧ z ≤ n ∧ L = pl z 10
theorem LP.range {w : List Int} {n L : Int} (h : LP n L) (hs : Sz w n) : 2 ≤ L ∧ L < w.length := by
  have hb := hs.big
  rcases h with rfl | ⟨z, a, b, rfl⟩
  · omega
  · obtain ⟨x1, x2, _⟩ := (hs.fit a b).at (i := 10) (by omega) (by omega); omega
theorem LP.ne {n L : Int} (h : LP n L) {x i : Int} (h0 : 1 ≤ x) (h1 : 8 ≤ i) (h2 : i < 128) (h3 : i ≠ 10 ∨ L ≠ pl x 10) : L ≠ pl x i := by
  rcases h with rfl | ⟨z, a, b, rfl⟩
  · unfold pl; omega
  · rcases h3 with h3 | h3
    · unfold pl; omega
    · unfold pl at *; omega
theorem LP.head {n L : Int} (h : LP n L) {j : Int} (h0 : 0 ≤ j) (h1 : j < 16) (h2 : j ≠ 2) : j ≠ L := by
  rcases h with rfl | ⟨z, a, b, rfl⟩
  · exact h2
  · unfold pl; omega
theorem lastpos_LP {n : Int} {ks : List Int} (h : ∀ q ∈ ks, 1 ≤ q ∧ q ≤ n) : LP n (lastpos 2 ks) := by
  rcases lastpos_mem ks 2 with ⟨_, e⟩ | ⟨z, hz, e⟩
  · exact .inl e
  · exact .inr ⟨z, (h z hz).1, (h z hz).2, e⟩

theorem Ch.relink {w : List Int} {n k : Int} (hs : Sz w n) (p : Int) (r : List Int) : ∀ (ks : List Int) (pos : Int), Ch w n k pos (ks ++ p :: r) → (ks ++ p :: r).Nodup → LP n pos → (∀ q ∈ ks ++ p :: r, pos ≠ pl q 10) →
    Ch (wr w (lastpos pos ks) (G w (pl p 10))) n k pos (ks ++ r) := by
  intro ks
  induction ks with
  | nil =>
    intro pos h hn hp hd
    obtain ⟨h1, h2, h3, h4, h5⟩ := h
    obtain ⟨a0, a1⟩ := hp.range hs
    have hk : ∀ x, 1 ≤ x → x ≤ n → K (wr w pos (G w (pl p 10))) x = K w x := fun x x1 x2 => by
      have := (hs.fit x1 x2).at (i := 8) (by omega) (by omega)
      exact G_wr_ne (by omega) a1 _ (by omega) (hp.ne x1 (by omega) (by omega) (.inl (by omega))).symm
    have hlk : ∀ x ∈ r, G (wr w pos (G w (pl p 10))) (pl x 10) = G w (pl x 10) := fun x hx => by
      obtain ⟨x1, x2, _⟩ := h5.mem x hx
      have := (hs.fit x1 x2).at (i := 10) (by omega) (by omega)
      exact G_wr_ne (by omega) a1 _ (by omega) (hd x (List.mem_append_right _ (List.mem_cons_of_mem _ hx))).symm
    have e0 : G (wr w pos (G w (pl p 10))) pos = G w (pl p 10) := G_wr_same (by omega) a1 _
    show Ch (wr w pos (G w (pl p 10))) n k pos r
    cases r with
    | nil => show G _ pos = 0; rw [e0]; exact h5
    | cons y s =>
      obtain ⟨y1, y2, y3, y4, y5⟩ := h5
      refine ⟨e0.trans y1, y2, y3, (hk y y2 y3).trans y4, y5.frame (hlk y (List.mem_cons_self ..)) fun x hx => ?_⟩
      obtain ⟨x1, x2, _⟩ := y5.mem x hx
      exact ⟨hk x x1 x2, hlk x (List.mem_cons_of_mem _ hx)⟩
  | cons q ks ih =>
    intro pos h hn hp hd
    obtain ⟨h1, h2, h3, h4, h5⟩ := h
    have hn : (q :: (ks ++ p :: r)).Nodup := hn
    obtain ⟨hq, hn2⟩ := List.nodup_cons.1 hn
    have hp2 : LP n (pl q 10) := .inr ⟨q, h2, h3, rfl⟩
    have hi := ih (pl q 10) h5 hn2 hp2 (fun x hx e => by
      have : x = q := by unfold pl at e; omega
      exact hq (this ▸ hx))
    have hmem : ∀ z ∈ q :: ks, 1 ≤ z ∧ z ≤ n := fun z hz => by
      rcases List.mem_cons.1 hz with rfl | hz
      · exact ⟨h2, h3⟩
      · have := h5.mem z (List.mem_append_left _ hz); exact ⟨this.1, this.2.1⟩
    have hL : ∃ z ∈ q :: ks, lastpos (pl q 10) ks = pl z 10 := by
      rcases lastpos_mem ks (pl q 10) with ⟨_, e⟩ | ⟨z, hz, e⟩
      · exact ⟨q, List.mem_cons_self .., e⟩
      · exact ⟨z, List.mem_cons_of_mem _ hz, e⟩
    obtain ⟨z, hz, eL⟩ := hL
    have hLP : LP n (lastpos (pl q 10) ks) := .inr ⟨z, (hmem z hz).1, (hmem z hz).2, eL⟩
    obtain ⟨b0, b1⟩ := hLP.range hs
    obtain ⟨a0, a1⟩ := hp.range hs
    have hne : pos ≠ lastpos (pl q 10) ks := by
      rw [eL]
      refine hd z ?_
      rcases List.mem_cons.1 hz with rfl | hz
      · exact List.mem_cons_self ..
      · exact List.mem_cons_of_mem _ (List.mem_append_left _ hz)
    have hf := (hs.fit h2 h3).at (i := 8) (by omega) (by omega)
    refine ⟨(G_wr_ne (by omega) b1 _ (by omega) hne).trans h1, h2, h3, ?_, hi⟩
    exact (G_wr_ne (by omega) b1 _ (by omega) (hLP.ne h2 (by omega) (by omega) (.inl (by omega))).symm).trans h4

/-- a page that is in no list becomes free -/
theorem push {w : List Int} {n q : Int} {fl dl : List Int} (hsz : Sz w n) (q1 : 1 ≤ q) (q2 : q ≤ n) (free : Ch w n 0 1 fl) (defd : Ch w n 255 2 dl) (fnd : fl.Nodup) (dnd : dl.Nodup) (fq : q ∉ fl) (dq : q ∉ dl)
    (fall : ∀ p, 1 ≤ p → p ≤ n → p ≠ q → K w p = 0 → p ∈ fl) (dall : ∀ p, 1 ≤ p → p ≤ n → p ≠ q → K w p = 255 → p ∈ dl) (kinds : ∀ p, 1 ≤ p → p ≤ n → p ≠ q → K w p = 0 ∨ usedK (K w p) = true ∨ K w p = 255)
    (marks : Mk w (G w 4) dl) (m1 : 1 ≤ G w 4) (m2 : G w 4 ≤ 1099511627776) (root : G w 3 = 0 ∨ (1 ≤ G w 3 ∧ G w 3 ≤ n ∧ G w 3 ≠ q ∧ usedK (K w (G w 3)) = true)) : AI (freeW w q) n (q :: fl) dl := by
  have hk : ∀ x, 1 ≤ x → x ≤ n → K (freeW w q) x = if x = q then 0 else K w x := fun x x1 x2 => free_K hsz q1 q2 x1 x2
  have hlk : ∀ x i, 1 ≤ x → x ≤ n → 8 ≤ i → i < 128 → G (freeW w q) (pl x i) = if x = q then (if i = 10 then G w 1 else 0) else G w (pl x i) := fun x i x1 x2 x3 x4 => G_free_pl hsz q1 q2 x1 x2 x3 x4
  have hhd : ∀ j, 0 ≤ j → j < 16 → G (freeW w q) j = if j = 1 then q else G w j := fun j j1 j2 => free_head hsz q1 q2 j1 j2
  refine ⟨hsz.free q1 q2, ?_, ?_, List.nodup_cons.2 ⟨fq, fnd⟩, dnd, fun x x1 x2 x3 => ?_, fun x x1 x2 x3 => ?_, fun x x1 x2 => ?_, ?_, ?_, ?_, ?_⟩
  · have hfr : ∀ x ∈ fl, K (freeW w q) x = K w x ∧ G (freeW w q) (pl x 10) = G w (pl x 10) := fun x hx => by
      obtain ⟨x1, x2, _⟩ := free.mem x hx
      have hne : x ≠ q := fun e => fq (e ▸ hx)
      exact ⟨by rw [hk x x1 x2, if_neg hne], by rw [hlk x 10 x1 x2 (by omega) (by omega), if_neg hne]⟩
    refine ⟨by rw [hhd 1 (by omega) (by omega), if_pos rfl], q1, q2, by rw [hk q q1 q2, if_pos rfl], ?_⟩
    have e1 : G (freeW w q) (pl q 10) = G w 1 := by rw [hlk q 10 q1 q2 (by omega) (by omega), if_pos rfl, if_pos rfl]
    cases fl with
    | nil => show G (freeW w q) (pl q 10) = 0; rw [e1]; exact free
    | cons y s =>
      obtain ⟨y1, y2, y3, y4, y5⟩ := free
      obtain ⟨z1, z2⟩ := hfr y (List.mem_cons_self ..)
      exact ⟨e1.trans y1, y2, y3, z1.trans y4, y5.frame z2 (fun x hx => hfr x (List.mem_cons_of_mem _ hx))⟩
  · refine defd.frame (by rw [hhd 2 (by omega) (by omega), if_neg (by omega)]) fun x hx => ?_
    obtain ⟨x1, x2, _⟩ := defd.mem x hx
    have hne : x ≠ q := fun e => dq (e ▸ hx)
    exact ⟨by rw [hk x x1 x2, if_neg hne], by rw [hlk x 10 x1 x2 (by omega) (by omega), if_neg hne]⟩
  · rw [hk x x1 x2] at x3
    by_cases e1 : x = q
    · rw [e1]; exact List.mem_cons_self ..
    · rw [if_neg e1] at x3; exact List.mem_cons_of_mem _ (fall x x1 x2 e1 x3)
  · rw [hk x x1 x2] at x3
    by_cases e1 : x = q
    · rw [if_pos e1] at x3; omega
    · rw [if_neg e1] at x3; exact dall x x1 x2 e1 x3
  · rw [hk x x1 x2]
    by_cases e1 : x = q
    · rw [if_pos e1]; exact .inl rfl
    · rw [if_neg e1]; exact kinds x x1 x2 e1
  · refine marks.frame (by rw [hhd 4 (by omega) (by omega), if_neg (by omega)]; omega) fun x hx => ?_
    obtain ⟨x1, x2, _⟩ := defd.mem x hx
    have hne : x ≠ q := fun e => dq (e ▸ hx)
    unfold mrk
    rw [hlk x 11 x1 x2 (by omega) (by omega), if_neg hne]
  · rw [hhd 4 (by omega) (by omega), if_neg (by omega)]; exact m1
  · rw [hhd 4 (by omega) (by omega), if_neg (by omega)]; exact m2
  · rw [hhd 3 (by omega) (by omega), if_neg (by omega)]
    rcases root with e1 | ⟨e1, e2, e4, e3⟩
    · exact .inl e1
    · exact .inr ⟨e1, e2, by rw [hk _ e1 e2, if_neg e4]; exact e3⟩
theorem Mk.skip {w : List Int} : ∀ {ks : List Int} {b p : Int} {r : List Int}, Mk w b (ks ++ p :: r) → Mk w b (ks ++ r) := by
  intro ks
  induction ks with
  | nil =>
    intro b p r h
    obtain ⟨x, y, z⟩ := h
    exact z.frame (by omega) (fun _ _ => rfl)
  | cons q s ih => intro b p r h; exact ⟨h.1, h.2.1, ih h.2.2⟩
/-- the next deferred page becomes free -/
theorem AI.unlink {w : List Int} {n p : Int} {fl ks r : List Int} (h : AI w n fl (ks ++ p :: r)) : AI (freeW (wr w (lastpos 2 ks) (G w (pl p 10))) p) n (p :: fl) (ks ++ r) := by
  have hs := h.sz
  have hmem : ∀ q ∈ ks ++ p :: r, 1 ≤ q ∧ q ≤ n ∧ K w q = 255 := h.defd.mem
  have hLP : LP n (lastpos 2 ks) := lastpos_LP fun q hq => ⟨(hmem q (List.mem_append_left _ hq)).1, (hmem q (List.mem_append_left _ hq)).2.1⟩
  obtain ⟨a0, a1⟩ := hLP.range hs
  have hg := hs.u.G (pl p 10)
  obtain ⟨p1, p2, p3⟩ := hmem p (List.mem_append_right _ (List.mem_cons_self ..))
  have hk : ∀ x, 1 ≤ x → x ≤ n → K (wr w (lastpos 2 ks) (G w (pl p 10))) x = K w x := fun x x1 x2 => by
    have := (hs.fit x1 x2).at (i := 8) (by omega) (by omega)
    exact G_wr_ne (by omega) a1 _ (by omega) (hLP.ne x1 (by omega) (by omega) (.inl (by omega))).symm
  have hhd : ∀ j, 0 ≤ j → j < 16 → j ≠ 2 → G (wr w (lastpos 2 ks) (G w (pl p 10))) j = G w j := fun j j1 j2 j3 => G_wr_ne (by omega) a1 _ j1 (hLP.head j1 j2 j3)
  have hm : ∀ x, 1 ≤ x → x ≤ n → mrk (wr w (lastpos 2 ks) (G w (pl p 10))) x = mrk w x := fun x x1 x2 => by
    have := (hs.fit x1 x2).at (i := 11) (by omega) (by omega)
    exact G_wr_ne (by omega) a1 _ (by omega) (hLP.ne x1 (by omega) (by omega) (.inl (by omega))).symm
  have hnd := h.dnd
  have hnd2 := List.nodup_append.1 hnd
  obtain ⟨pr, nr⟩ := List.nodup_cons.1 hnd2.2.1
  have pk : p ∉ ks := fun hm => hnd2.2.2 p hm p (List.mem_cons_self ..) rfl
  have sub : ∀ x, x ∈ ks ++ r → x ∈ ks ++ p :: r := fun x hx => (List.mem_append.1 hx).elim (fun h => List.mem_append_left _ h) (fun h => List.mem_append_right _ (List.mem_cons_of_mem _ h))
  refine push (hs.wr (by omega) a1 hg.1 hg.2) p1 p2 ?_ ?_ h.fnd ?_ ?_ ?_ (fun x x1 x2 x3 x4 => ?_) (fun x x1 x2 x3 x4 => ?_) (fun x x1 x2 x3 => ?_) ?_ ?_ ?_ ?_
  · refine h.free.frame (hhd 1 (by omega) (by omega) (by omega)) fun x hx => ?_
    obtain ⟨x1, x2, x3⟩ := h.free.mem x hx
    have := (hs.fit x1 x2).at (i := 10) (by omega) (by omega)
    refine ⟨hk x x1 x2, G_wr_ne (by omega) a1 _ (by omega) fun e => ?_⟩
    rcases lastpos_mem ks 2 with ⟨_, e2⟩ | ⟨z, hz, e2⟩
    · rw [e2] at e; omega
    · rw [e2] at e
      have : x = z := by unfold pl at e; omega
      have := (hmem z (List.mem_append_left _ hz)).2.2
      subst x; omega
  · exact h.defd.relink hs p r ks 2 hnd (.inl rfl) (fun q hq => by have := (hmem q hq).1; unfold pl; omega)
  · exact List.nodup_append.2 ⟨hnd2.1, nr, fun a ha b hb => hnd2.2.2 a ha b (List.mem_cons_of_mem _ hb)⟩
  · exact fun hm => by have := (h.free.mem p hm).2.2; omega
  · exact fun hm => (List.mem_append.1 hm).elim pk pr
  · rw [hk x x1 x2] at x4; exact h.fall x x1 x2 x4
  · rw [hk x x1 x2] at x4
    have := h.dall x x1 x2 x4
    rcases List.mem_append.1 this with h2 | h2
    · exact List.mem_append_left _ h2
    · exact List.mem_append_right _ ((List.mem_cons.1 h2).resolve_left x3)
  · rw [hk x x1 x2]; exact h.kinds x x1 x2
  · refine h.marks.skip.frame (by rw [hhd 4 (by omega) (by omega) (by omega)]; omega) fun x hx => ?_
    obtain ⟨x1, x2, _⟩ := hmem x (sub x hx)
    exact hm x x1 x2
  · rw [hhd 4 (by omega) (by omega) (by omega)]; exact h.m1
  · rw [hhd 4 (by omega) (by omega) (by omega)]; exact h.m2
  · rw [hhd 3 (by omega) (by omega) (by omega)]
    rcases h.root with e1 | ⟨e1, e2, e3⟩
    · exact .inl e1
    · refine .inr ⟨e1, e2, fun e => ?_, by rw [hk _ e1 e2]; exact e3⟩
      rw [e, p3] at e3
      exact absurd e3 (by decide)

def progF (L : Int) : List Int → List Int → List Int
  | w, [] => w
  | w, p :: r => progF L (freeW (wr w L (G w (pl p 10))) p) r
def refF : List Int → List Int → List Int
  | w, [] => w
  | w, p :: r => refF (freeW w p) r
theorem free_comm {w : List Int} {n p L : Int} (hs : Sz w n) (h0 : 1 ≤ p) (h1 : p ≤ n) (hL : LP n L) (hne : L ≠ pl p 10) (v : Int) : freeW (wr w L v) p = wr (freeW w p) L v := by
  have hb := hs.big
  obtain ⟨a0, a1⟩ := hL.range hs
  have hf := hs.fit h0 h1
  have hroom := hf.room
  have l1 : (freeW w p).length = w.length := by unfold freeW; rw [wr_length, putW_length]
  have l2 : (freeW (wr w L v) p).length = w.length := by unfold freeW; rw [wr_length, putW_length, wr_length]
  have e1 : G (wr w L v) 1 = G w 1 := G_wr_ne (by omega) a1 _ (by omega) (hL.head (by omega) (by omega) (by omega))
  refine ext_G (by rw [l2, wr_length, l1]) fun j hj hj2 => ?_
  rw [l2] at hj2
  rw [G_wr (w := freeW w p) (by omega) (by omega) _ hj]
  unfold freeW
  rw [e1, G_wr (by omega) (by rw [putW_length, wr_length]; omega) _ hj, G_wr (by omega) (by rw [putW_length]; omega) _ hj, G_putW hj (by rw [wr_length]; omega), G_putW hj hj2, G_wr (by omega) a1 _ hj]
  by_cases c1 : j = 1
  · rw [if_pos c1, if_pos c1, if_neg (by omega)]
  · rw [if_neg c1, if_neg c1]
    by_cases c2 : pl p 8 ≤ j ∧ j < pl p 128
    · rw [if_pos c2, if_pos c2, if_neg]
      intro e
      have hx : L = pl p (j - pl p 0) := by rw [← e]; unfold pl; omega
      refine hL.ne h0 (i := j - pl p 0) (by unfold pl at *; omega) (by unfold pl at *; omega) ?_ hx
      by_cases e10 : j - pl p 0 = 10
      · exact .inr hne
      · exact .inl e10
    · rw [if_neg c2, if_neg c2]
theorem refF_comm {n L : Int} (hL : LP n L) (v : Int) : ∀ {fs : List Int} {w : List Int}, Sz w n → (∀ p ∈ fs, 1 ≤ p ∧ p ≤ n ∧ L ≠ pl p 10) → refF (wr w L v) fs = wr (refF w fs) L v := by
  intro fs
  induction fs with
  | nil => intro w _ _; rfl
  | cons p r ih =>
    intro w h hm
    obtain ⟨a, b, c⟩ := hm p (List.mem_cons_self ..)
    show refF (freeW (wr w L v) p) r = _
    rw [free_comm h a b hL c, ih (h.free a b) (fun q hq => hm q (List.mem_cons_of_mem _ hq))]
    rfl
theorem progF_eq {n L : Int} (hL : LP n L) : ∀ {fs : List Int} {w : List Int}, Sz w n → fs ≠ [] → fs.Nodup → (∀ p ∈ fs, 1 ≤ p ∧ p ≤ n ∧ L ≠ pl p 10) → G w (lastpos L fs) = 0 → progF L w fs = wr (refF w fs) L 0 := by
  intro fs
  induction fs with
  | nil => intro w _ h; exact absurd rfl h
  | cons p r ih =>
    intro w hs _ hn hm hz
    obtain ⟨a, b, c⟩ := hm p (List.mem_cons_self ..)
    have hz : G w (lastpos (pl p 10) r) = 0 := hz
    obtain ⟨pn, rn⟩ := List.nodup_cons.1 hn
    show progF L (freeW (wr w L (G w (pl p 10))) p) r = wr (refF (freeW w p) r) L 0
    rw [free_comm hs a b hL c]
    cases r with
    | nil =>
      have e : G w (pl p 10) = 0 := hz
      rw [e]; rfl
    | cons q s =>
      have hfs := hs.free a b
      obtain ⟨a0, a1⟩ := hL.range hfs
      have hg := hs.u.G (pl p 10)
      have hz2 : G (wr (freeW w p) L (G w (pl p 10))) (lastpos L (q :: s)) = 0 := by
        rcases lastpos_mem (q :: s) L with ⟨e, _⟩ | ⟨z, hz', e⟩
        · cases e
        · obtain ⟨z1, z2, z3⟩ := hm z (List.mem_cons_of_mem _ hz')
          have hzp : z ≠ p := fun e => pn (e ▸ hz')
          have hb := (hs.fit z1 z2).at (i := 10) (by omega) (by omega)
          have e' : lastpos (pl p 10) (q :: s) = pl z 10 := e
          rw [e'] at hz
          rw [e, G_wr_ne (by omega) a1 _ (by omega) z3.symm, G_free_pl hs a b z1 z2 (by omega) (by omega), if_neg hzp]
          exact hz
      rw [ih (hfs.wr (by omega) a1 hg.1 hg.2) (by simp) rn (fun x hx => hm x (List.mem_cons_of_mem _ hx)) hz2, refF_comm hL _ hfs (fun x hx => hm x (List.mem_cons_of_mem _ hx))]
      unfold wr
      rw [List.set_set]
theorem G_progF {n L : Int} (hL : LP n L) : ∀ {fs : List Int} {w : List Int}, Sz w n → (∀ p ∈ fs, 1 ≤ p ∧ p ≤ n ∧ L ≠ pl p 10) → ∀ x i : Int, 1 ≤ x → x ≤ n → x ∉ fs → 8 ≤ i → i < 128 → L ≠ pl x i → G (progF L w fs) (pl x i) = G w (pl x i) := by
  intro fs
  induction fs with
  | nil => intro w _ _ x i _ _ _ _ _ _; rfl
  | cons p r ih =>
    intro w hs hm x i x1 x2 x3 x4 x5 x6
    obtain ⟨a, b, c⟩ := hm p (List.mem_cons_self ..)
    obtain ⟨a0, a1⟩ := hL.range hs
    have hg := hs.u.G (pl p 10)
    have hs2 := hs.wr (i := L) (v := G w (pl p 10)) (by omega) a1 hg.1 hg.2
    have hb := (hs.fit x1 x2).at (i := i) (by omega) (by omega)
    have hxp : x ≠ p := fun e => x3 (e ▸ List.mem_cons_self ..)
    show G (progF L (freeW (wr w L (G w (pl p 10))) p) r) (pl x i) = _
    rw [ih (hs2.free a b) (fun q hq => hm q (List.mem_cons_of_mem _ hq)) x i x1 x2 (fun h => x3 (List.mem_cons_of_mem _ h)) x4 x5 x6, G_free_pl hs2 a b x1 x2 x4 x5, if_neg hxp, G_wr_ne (by omega) a1 _ (by omega) x6.symm]
end Go.Ev.L
