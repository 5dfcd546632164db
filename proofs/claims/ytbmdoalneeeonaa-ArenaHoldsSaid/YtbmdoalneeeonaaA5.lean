/- Arenas: the lists of free and of deferred pages, and what each call makes of them. -/
import Derived.Test.YtbmdoalneeeonaaA4
set_option linter.unusedVariables false
set_option linter.unusedSimpArgs false
namespace Go.Ev.L
open Go Go.Ev Go.Ev.M

/-- the list that begins at a word: its pages, all of one kind -/
def Ch (w : List Int) (n k : Int) : Int → List Int → Prop
  | pos, [] => G w pos = 0
  | pos, p :: r => G w pos = p ∧ 1 ≤ p ∧ p ≤ n ∧ K w p = k ∧ Ch w n k (pl p 10) r
theorem Ch.frame {w v : List Int} {n k : Int} : ∀ {l : List Int} {pos : Int}, Ch w n k pos l → G v pos = G w pos → (∀ p ∈ l, K v p = K w p ∧ G v (pl p 10) = G w (pl p 10)) → Ch v n k pos l := by
  intro l
  induction l with
  | nil => intro pos h h0 _; show G v pos = 0; rw [h0]; exact h
  | cons p r ih =>
    intro pos h h0 h1
    obtain ⟨a, b, c, d, e⟩ := h
    obtain ⟨x, y⟩ := h1 p (List.mem_cons_self ..)
    exact ⟨h0.trans a, b, c, x.trans d, ih e y (fun q hq => h1 q (List.mem_cons_of_mem _ hq))⟩
theorem Ch.mem {w : List Int} {n k : Int} : ∀ {l : List Int} {pos : Int}, Ch w n k pos l → ∀ p ∈ l, 1 ≤ p ∧ p ≤ n ∧ K w p = k := by
  intro l
  induction l with
  | nil => intro pos _ p hp; cases hp
  | cons q r ih =>
    intro pos h p hp
    obtain ⟨a, b, c, d, e⟩ := h
    rcases List.mem_cons.1 hp with rfl | hp
    · exact ⟨b, c, d⟩
    · exact ih e p hp
theorem Ch.nil {w : List Int} {n k pos : Int} {l : List Int} (h : Ch w n k pos l) (h0 : G w pos = 0) : l = [] := by
  cases l with
  | nil => rfl
  | cons p r => obtain ⟨a, b, _⟩ := h; omega
/-- the marks of deferred pages: each is below the one before -/
def mrk (w : List Int) (p : Int) : Int := G w (pl p 11)
def Mk (w : List Int) : Int → List Int → Prop
  | _, [] => True
  | b, p :: r => 1 ≤ mrk w p ∧ mrk w p < b ∧ Mk w (mrk w p) r
theorem Mk.frame {w v : List Int} : ∀ {l : List Int} {b c : Int}, Mk w b l → b ≤ c → (∀ p ∈ l, mrk v p = mrk w p) → Mk v c l := by
  intro l
  induction l with
  | nil => intro b c _ _ _; trivial
  | cons p r ih =>
    intro b c h hc h1
    obtain ⟨x, y, z⟩ := h
    have e := h1 p (List.mem_cons_self ..)
    exact ⟨by omega, by omega, ih z (by omega) (fun q hq => h1 q (List.mem_cons_of_mem _ hq))⟩
theorem Mk.lt {w : List Int} : ∀ {l : List Int} {b : Int}, Mk w b l → ∀ p ∈ l, 1 ≤ mrk w p ∧ mrk w p < b := by
  intro l
  induction l with
  | nil => intro b _ p hp; cases hp
  | cons q r ih =>
    intro b h p hp
    obtain ⟨x, y, z⟩ := h
    rcases List.mem_cons.1 hp with rfl | hp
    · exact ⟨x, y⟩
    · have := ih z p hp; exact ⟨this.1, by omega⟩

structure AI (w : List Int) (n : Int) (fl dl : List Int) : Prop where
  sz : Sz w n
  free : Ch w n 0 1 fl
  defd : Ch w n 255 2 dl
  fnd : fl.Nodup
  dnd : dl.Nodup
  fall : ∀ p, 1 ≤ p → p ≤ n → K w p = 0 → p ∈ fl
  dall : ∀ p, 1 ≤ p → p ≤ n → K w p = 255 → p ∈ dl
  kinds : ∀ p, 1 ≤ p → p ≤ n → K w p = 0 ∨ usedK (K w p) = true ∨ K w p = 255
  marks : Mk w (G w 4) dl
  m1 : 1 ≤ G w 4
  m2 : G w 4 ≤ 1099511627776
  root : G w 3 = 0 ∨ (1 ≤ G w 3 ∧ G w 3 ≤ n ∧ usedK (K w (G w 3)) = true)

theorem usedK_iff {k : Int} : usedK k = true ↔ 1 ≤ k ∧ k ≤ 6 := by unfold usedK; simp [Bool.and_eq_true, decide_eq_true_eq]
theorem valid_used {p : List Int} (h : validB p = true) : usedK (G p 8) = true := by
  obtain ⟨h1, h2, _⟩ := head_spec (valid_head h)
  exact usedK_iff.2 ⟨h1, h2⟩

theorem cnt_list (f : Int → Bool) (w : List Int) : ∀ (k : Nat) (l : List Int), l.Nodup → (∀ p : Int, p ∈ l ↔ (1 ≤ p ∧ p ≤ k ∧ f (K w p) = true)) → (l.length : Int) = cnt f w k := by
  intro k
  induction k with
  | zero =>
    intro l _ h
    cases l with
    | nil => rfl
    | cons p r => have := (h p).1 (List.mem_cons_self ..); omega
  | succ k ih =>
    intro l hn h
    simp only [cnt]
    by_cases e : f (K w ((k : Int) + 1)) = true
    · rw [if_pos e]
      have hm : ((k : Int) + 1) ∈ l := (h _).2 ⟨by omega, by omega, e⟩
      have hl := List.length_erase_of_mem hm
      have := ih (l.erase ((k : Int) + 1)) (hn.erase _) (fun p => by
        rw [hn.mem_erase_iff, h p]
        constructor
        · rintro ⟨a, b, c, d⟩; exact ⟨b, by omega, d⟩
        · rintro ⟨a, b, c⟩; exact ⟨by omega, a, by omega, c⟩)
      have hpos := List.length_pos_of_mem hm
      omega
    · rw [if_neg e]
      have := ih l hn (fun p => by
        rw [h p]
        constructor
        · rintro ⟨a, b, c⟩
          refine ⟨a, ?_, c⟩
          by_cases e2 : p = (k : Int) + 1
          · subst e2; exact absurd c e
          · omega
        · rintro ⟨a, b, c⟩; exact ⟨a, by omega, c⟩)
      omega
theorem AI.flen {w : List Int} {n : Int} {fl dl : List Int} (h : AI w n fl dl) : (fl.length : Int) = cnt freeK w n.toNat := cnt_list freeK w n.toNat fl h.fnd fun p => by
  have hl := h.sz.lo
  constructor
  · intro hp
    obtain ⟨a, b, c⟩ := h.free.mem p hp
    exact ⟨a, by omega, by rw [c]; rfl⟩
  · rintro ⟨a, b, c⟩
    exact h.fall p a (by omega) (by simpa [freeK] using c)
theorem AI.dlen {w : List Int} {n : Int} {fl dl : List Int} (h : AI w n fl dl) : (dl.length : Int) = cnt defK w n.toNat := cnt_list defK w n.toNat dl h.dnd fun p => by
  have hl := h.sz.lo
  constructor
  · intro hp
    obtain ⟨a, b, c⟩ := h.defd.mem p hp
    exact ⟨a, by omega, by rw [c]; rfl⟩
  · rintro ⟨a, b, c⟩
    exact h.dall p a (by omega) (by simpa [defK] using c)
theorem cnt_sum {w : List Int} : ∀ {k : Nat}, (∀ p : Int, 1 ≤ p → p ≤ k → K w p = 0 ∨ usedK (K w p) = true ∨ K w p = 255) → cnt freeK w k + cnt usedK w k + cnt defK w k = k := by
  intro k
  induction k with
  | zero => intro _; rfl
  | succ k ih =>
    intro h
    have := ih (fun p a b => h p a (by omega))
    simp only [cnt]
    rcases h ((k : Int) + 1) (by omega) (by omega) with e | e | e
    · rw [e]
      have f0 : freeK 0 = true := rfl
      have u0 : usedK 0 = false := rfl
      have d0 : defK 0 = false := rfl
      rw [f0, u0, d0]; simp; omega
    · have f0 : freeK (K w ((k : Int) + 1)) = false := by have := usedK_iff.1 e; unfold freeK; simp; omega
      have d0 : defK (K w ((k : Int) + 1)) = false := by have := usedK_iff.1 e; unfold defK; simp; omega
      rw [f0, e, d0]; simp; omega
    · rw [e]
      have f0 : freeK 255 = false := rfl
      have u0 : usedK 255 = false := rfl
      have d0 : defK 255 = true := rfl
      rw [f0, u0, d0]; simp; omega
theorem AI.sum {w : List Int} {n : Int} {fl dl : List Int} (h : AI w n fl dl) : cnt freeK w n.toNat + cnt usedK w n.toNat + cnt defK w n.toNat = n := by
  have hl := h.sz.lo
  have := cnt_sum (w := w) (k := n.toNat) (fun p a b => h.kinds p a (by omega))
  omega
theorem AI.len_le {w : List Int} {n : Int} {fl dl : List Int} (h : AI w n fl dl) : (fl.length : Int) ≤ n ∧ (dl.length : Int) ≤ n := by
  have hl := h.sz.lo
  have := cnt_range freeK w n.toNat
  have := cnt_range defK w n.toNat
  rw [h.flen, h.dlen]; omega

theorem alist_l0 {w : List Int} {n : Int} (hs : Sz w n) (k : Int) : ∀ (l : List Int) (pos : Int) (acc : List Int) (fuel N : Nat), Ch w n k pos l → (acc.length : Int) + l.length ≤ n → l.length < fuel →
    m_arena_Arena_list_l0 N fuel k (G w pos) acc w = some (acc ++ l, true, AR w) := by
  have hh := hs.hi; have hb := hs.big; have hlo := hs.lo
  intro l
  induction l with
  | nil =>
    intro pos acc fuel N h hl hf
    obtain ⟨fuel, rfl⟩ : ∃ i, fuel = i + 1 := ⟨fuel - 1, by omega⟩
    have h : G w pos = 0 := h
    simp only [m_arena_Arena_list_l0, m_arena_Arena_list_l0_b, h, bne_self_eq_false, Bool.false_eq_true, if_false, List.append_nil]
  | cons p r ih =>
    intro pos acc fuel N h hl hf
    obtain ⟨fuel, rfl⟩ : ∃ i, fuel = i + 1 := ⟨fuel - 1, by omega⟩
    obtain ⟨a, b, c, d, e⟩ := h
    simp only [List.length_cons] at hl hf
    have hfit := hs.fit b c
    obtain ⟨x1, x2, x3⟩ := hfit.at (i := 10) (by omega) (by omega)
    have hff : fits (acc.length + 1) 8 := by unfold fits; omega
    have hn : ¬ ((acc.length : Int) == n) = true := by simp; omega
    simp only [m_arena_Arena_list_l0, m_arena_Arena_list_l0_b, a]
    rw [if_pos (by simp; omega)]
    simp only [arena_pages hs, Option.bind_some]
    rw [wU (x := n) (by omega) (by omega), wI (x := p) (by omega) (by omega), if_neg (by simp; omega), if_neg hn]
    simp only [arena_kind hfit, d, Option.bind_some, bne_self_eq_false, Bool.false_eq_true, if_false, List.length_singleton, hff, if_true, x3, mem_Load (w := w) (i := pl p 10) (by omega) x2]
    rw [ih (pl p 10) (acc ++ [p]) fuel N e (by simp; omega) (by omega)]
    simp
theorem arena_list_free {w : List Int} {n : Int} {fl dl : List Int} (h : AI w n fl dl) : m_arena_Arena_list (AR w) 1 0 = some (fl, true, AR w) := by
  have hb := h.sz.big; have hl := h.len_le; have hh := h.sz.hi
  unfold m_arena_Arena_list m_arena_Arena_list_a
  simp only [mem_Load (w := w) (i := 1) (by omega) (by omega), Option.bind_some]
  have := alist_l0 h.sz 0 fl 1 [] FUEL FUEL h.free (by simp; omega) (by have := FUEL_big; omega)
  simpa using this
theorem arena_list_def {w : List Int} {n : Int} {fl dl : List Int} (h : AI w n fl dl) : m_arena_Arena_list (AR w) 2 255 = some (dl, true, AR w) := by
  have hb := h.sz.big; have hl := h.len_le; have hh := h.sz.hi
  unfold m_arena_Arena_list m_arena_Arena_list_a
  simp only [mem_Load (w := w) (i := 2) (by omega) (by omega), Option.bind_some]
  have := alist_l0 h.sz 255 dl 2 [] FUEL FUEL h.defd (by simp; omega) (by have := FUEL_big; omega)
  simpa using this

theorem AI.head {w : List Int} {n : Int} {fl dl : List Int} (h : AI w n fl dl) : G w 1 ≤ n := by
  have hl := h.sz.lo
  have hf := h.free
  cases fl with
  | nil => have : G w 1 = 0 := hf; omega
  | cons p r => obtain ⟨a, b, c, _⟩ := hf; omega
theorem AI.alloc {w : List Int} {n : Int} {fl dl p : List Int} (h : AI w n fl dl) (hp : PageOK p) (hv : validB p = true) (h0 : G w 1 ≠ 0) : ∃ r, fl = G w 1 :: r ∧ K w (G w 1) = 0 ∧ 1 ≤ G w 1 ∧ AI (allocW w p) n r dl := by
  have hsz := h.sz
  have hf := h.free
  cases hfl : fl with
  | nil => rw [hfl] at hf; exact absurd hf h0
  | cons q r =>
    rw [hfl] at hf
    obtain ⟨a, b, c, d, e⟩ := hf
    have hq : G w 1 = q := a
    have hnd := h.fnd
    rw [hfl] at hnd
    obtain ⟨hni, hnr⟩ := List.nodup_cons.1 hnd
    have hk : ∀ x, 1 ≤ x → x ≤ n → K (allocW w p) x = if x = q then G p 8 else K w x := fun x x1 x2 => by rw [alloc_K hsz (by omega) (by omega) x1 x2, hq]
    have hlk : ∀ x i, 1 ≤ x → x ≤ n → 8 ≤ i → i < 128 → G (allocW w p) (pl x i) = if x = q then G p i else G w (pl x i) := fun x i x1 x2 x3 x4 => by rw [alloc_link hsz (by omega) (by omega) x1 x2 x3 x4, hq]
    have hhd : ∀ j, 0 ≤ j → j < 16 → G (allocW w p) j = if j = 1 then G w (pl q 10) else G w j := fun j j1 j2 => by rw [alloc_head hsz (by omega) (by omega) j1 j2, hq]
    have hu := valid_used hv
    have hu2 := usedK_iff.1 hu
    have dq : q ∉ dl := fun hm => by have := (h.defd.mem q hm).2.2; omega
    refine ⟨r, by rw [hq], by rw [hq]; exact d, by omega, ⟨hsz.alloc hp.2 (by omega), ?_, ?_, hnr, h.dnd, fun x x1 x2 x3 => ?_, fun x x1 x2 x3 => ?_, fun x x1 x2 => ?_, ?_, ?_, ?_, ?_⟩⟩
    · -- the free list begins one page later
      have e1 : G (allocW w p) 1 = G w (pl q 10) := by rw [hhd 1 (by omega) (by omega), if_pos rfl]
      have hrest : ∀ x ∈ r, K (allocW w p) x = K w x ∧ G (allocW w p) (pl x 10) = G w (pl x 10) := fun x hx => by
        obtain ⟨x1, x2, _⟩ := e.mem x hx
        have hne : x ≠ q := fun e => hni (e ▸ hx)
        exact ⟨by rw [hk x x1 x2, if_neg hne], by rw [hlk x 10 x1 x2 (by omega) (by omega), if_neg hne]⟩
      cases r with
      | nil => show G (allocW w p) 1 = 0; rw [e1]; exact e
      | cons y s =>
        obtain ⟨y1, y2, y3, y4, y5⟩ := e
        obtain ⟨z1, z2⟩ := hrest y (List.mem_cons_self ..)
        exact ⟨e1.trans y1, y2, y3, z1.trans y4, y5.frame z2 (fun x hx => hrest x (List.mem_cons_of_mem _ hx))⟩
    · refine h.defd.frame (by rw [hhd 2 (by omega) (by omega), if_neg (by omega)]) fun x hx => ?_
      obtain ⟨x1, x2, _⟩ := h.defd.mem x hx
      have hne : x ≠ q := fun e => dq (e ▸ hx)
      exact ⟨by rw [hk x x1 x2, if_neg hne], by rw [hlk x 10 x1 x2 (by omega) (by omega), if_neg hne]⟩
    · rw [hk x x1 x2] at x3
      by_cases e1 : x = q
      · rw [if_pos e1] at x3; omega
      · rw [if_neg e1] at x3
        have := h.fall x x1 x2 x3
        rw [hfl] at this
        exact (List.mem_cons.1 this).resolve_left e1
    · rw [hk x x1 x2] at x3
      by_cases e1 : x = q
      · rw [if_pos e1] at x3; omega
      · rw [if_neg e1] at x3; exact h.dall x x1 x2 x3
    · rw [hk x x1 x2]
      by_cases e1 : x = q
      · rw [if_pos e1]; exact .inr (.inl hu)
      · rw [if_neg e1]; exact h.kinds x x1 x2
    · refine h.marks.frame (by rw [hhd 4 (by omega) (by omega), if_neg (by omega)]; omega) fun x hx => ?_
      obtain ⟨x1, x2, _⟩ := h.defd.mem x hx
      have hne : x ≠ q := fun e => dq (e ▸ hx)
      unfold mrk
      rw [hlk x 11 x1 x2 (by omega) (by omega), if_neg hne]
    · rw [hhd 4 (by omega) (by omega), if_neg (by omega)]; exact h.m1
    · rw [hhd 4 (by omega) (by omega), if_neg (by omega)]; exact h.m2
    · rw [hhd 3 (by omega) (by omega), if_neg (by omega)]
      rcases h.root with e1 | ⟨e1, e2, e3⟩
      · exact .inl e1
      · refine .inr ⟨e1, e2, ?_⟩
        rw [hk _ e1 e2]
        split
        · exact hu
        · exact e3
theorem busy_ok {w : List Int} {n p : Int} {root : Bool} (h : busyE w n p root = 0) : 1 ≤ p ∧ p ≤ n ∧ usedK (K w p) = true ∧ (root = true → G w 3 ≠ p) := by
  unfold busyE at h
  split at h
  · omega
  split at h
  · omega
  rename_i h1 h2
  refine ⟨by omega, by omega, by simpa using h2, fun hr e => ?_⟩
  rw [if_pos ⟨hr, e⟩] at h
  omega
theorem G_free_pl {w : List Int} {n p q : Int} (hs : Sz w n) (h0 : 1 ≤ p) (h1 : p ≤ n) (h2 : 1 ≤ q) (h3 : q ≤ n) {i : Int} (h4 : 8 ≤ i) (h5 : i < 128) : G (freeW w p) (pl q i) = if q = p then (if i = 10 then G w 1 else 0) else G w (pl q i) := by
  unfold freeW
  rw [G_wr_pl ((hs.fit h2 h3).put _ _) (by omega) (by omega) _ (by omega), G_put_pl (hs.fit h2 h3) (hs.fit h0 h1) _ h4 h5, G_freeP _ (by omega)]
theorem AI.release {w : List Int} {n q : Int} {fl dl : List Int} (h : AI w n fl dl) (hb : busyE w n q true = 0) : AI (freeW w q) n (q :: fl) dl := by
  have hsz := h.sz
  obtain ⟨q1, q2, qu, qr⟩ := busy_ok hb
  have qr := qr rfl
  have qu2 := usedK_iff.1 qu
  have hk : ∀ x, 1 ≤ x → x ≤ n → K (freeW w q) x = if x = q then 0 else K w x := fun x x1 x2 => free_K hsz q1 q2 x1 x2
  have hlk : ∀ x i, 1 ≤ x → x ≤ n → 8 ≤ i → i < 128 → G (freeW w q) (pl x i) = if x = q then (if i = 10 then G w 1 else 0) else G w (pl x i) := fun x i x1 x2 x3 x4 => G_free_pl hsz q1 q2 x1 x2 x3 x4
  have hhd : ∀ j, 0 ≤ j → j < 16 → G (freeW w q) j = if j = 1 then q else G w j := fun j j1 j2 => free_head hsz q1 q2 j1 j2
  have fq : q ∉ fl := fun hm => by have := (h.free.mem q hm).2.2; omega
  have dq : q ∉ dl := fun hm => by have := (h.defd.mem q hm).2.2; omega
  refine ⟨hsz.free q1 q2, ?_, ?_, List.nodup_cons.2 ⟨fq, h.fnd⟩, h.dnd, fun x x1 x2 x3 => ?_, fun x x1 x2 x3 => ?_, fun x x1 x2 => ?_, ?_, ?_, ?_, ?_⟩
  · have hfr : ∀ x ∈ fl, K (freeW w q) x = K w x ∧ G (freeW w q) (pl x 10) = G w (pl x 10) := fun x hx => by
      obtain ⟨x1, x2, _⟩ := h.free.mem x hx
      have hne : x ≠ q := fun e => fq (e ▸ hx)
      exact ⟨by rw [hk x x1 x2, if_neg hne], by rw [hlk x 10 x1 x2 (by omega) (by omega), if_neg hne]⟩
    refine ⟨by rw [hhd 1 (by omega) (by omega), if_pos rfl], q1, q2, by rw [hk q q1 q2, if_pos rfl], ?_⟩
    have e1 : G (freeW w q) (pl q 10) = G w 1 := by rw [hlk q 10 q1 q2 (by omega) (by omega), if_pos rfl, if_pos rfl]
    have hf := h.free
    cases fl with
    | nil => show G (freeW w q) (pl q 10) = 0; rw [e1]; exact hf
    | cons y s =>
      obtain ⟨y1, y2, y3, y4, y5⟩ := hf
      obtain ⟨z1, z2⟩ := hfr y (List.mem_cons_self ..)
      exact ⟨e1.trans y1, y2, y3, z1.trans y4, y5.frame z2 (fun x hx => hfr x (List.mem_cons_of_mem _ hx))⟩
  · refine h.defd.frame (by rw [hhd 2 (by omega) (by omega), if_neg (by omega)]) fun x hx => ?_
    obtain ⟨x1, x2, _⟩ := h.defd.mem x hx
    have hne : x ≠ q := fun e => dq (e ▸ hx)
    exact ⟨by rw [hk x x1 x2, if_neg hne], by rw [hlk x 10 x1 x2 (by omega) (by omega), if_neg hne]⟩
  · rw [hk x x1 x2] at x3
    by_cases e1 : x = q
    · rw [e1]; exact List.mem_cons_self ..
    · rw [if_neg e1] at x3; exact List.mem_cons_of_mem _ (h.fall x x1 x2 x3)
  · rw [hk x x1 x2] at x3
    by_cases e1 : x = q
    · rw [if_pos e1] at x3; omega
    · rw [if_neg e1] at x3; exact h.dall x x1 x2 x3
  · rw [hk x x1 x2]
    by_cases e1 : x = q
    · rw [if_pos e1]; exact .inl rfl
    · rw [if_neg e1]; exact h.kinds x x1 x2
  · refine h.marks.frame (by rw [hhd 4 (by omega) (by omega), if_neg (by omega)]; omega) fun x hx => ?_
    obtain ⟨x1, x2, _⟩ := h.defd.mem x hx
    have hne : x ≠ q := fun e => dq (e ▸ hx)
    unfold mrk
    rw [hlk x 11 x1 x2 (by omega) (by omega), if_neg hne]
  · rw [hhd 4 (by omega) (by omega), if_neg (by omega)]; exact h.m1
  · rw [hhd 4 (by omega) (by omega), if_neg (by omega)]; exact h.m2
  · rw [hhd 3 (by omega) (by omega), if_neg (by omega)]
    rcases h.root with e1 | ⟨e1, e2, e3⟩
    · exact .inl e1
    · exact .inr ⟨e1, e2, by rw [hk _ e1 e2, if_neg qr]; exact e3⟩

def defP (h m : Int) : List Int := (((List.replicate 128 0).set 8 255).set 10 h).set 11 m
def deferW (w : List Int) (p : Int) : List Int := wr (wr (putW w p (defP (G w 2) (G w 4))) 2 p) 4 (G w 4 + 1)
theorem defP_u {h m : Int} (h0 : 0 ≤ h) (h1 : h < 18446744073709551616) (m0 : 0 ≤ m) (m1 : m < 18446744073709551616) : U64 (defP h m) :=
  U64_wr (U64_wr (U64_wr (U64_rep 128) 8 (v := 255) (by omega) (by omega)) 10 h0 h1) 11 m0 m1
theorem G_defP (h m : Int) {j : Int} (h0 : 0 ≤ j) : G (defP h m) j = if j = 11 then m else if j = 10 then h else if j = 8 then 255 else 0 := by
  unfold defP
  have e2 : G (List.replicate 128 (0 : Int)) j = 0 := by
    unfold G; rw [List.getD_eq_getElem?_getD, List.getElem?_replicate]; split <;> rfl
  have s1 := G_set (p := List.replicate 128 (0 : Int)) (i := 8) (x := 255) (by rw [rep_len]; omega) j h0
  have s2 := G_set (p := (List.replicate 128 (0 : Int)).set 8 255) (i := 10) (x := h) (by rw [List.length_set, rep_len]; omega) j h0
  have s3 := G_set (p := ((List.replicate 128 (0 : Int)).set 8 255).set 10 h) (i := 11) (x := m) (by rw [List.length_set, List.length_set, rep_len]; omega) j h0
  rw [s3, s2, s1, e2]
  rfl
theorem arena_Defer {w : List Int} {n : Int} (hs : Sz w n) (p : Int) (hm : G w 4 ≤ 1099511627776) : m_arena_Arena_Defer (AR w) p = some (if busyE w n p true = 0 then (if G w 4 = 1099511627776 then ((0 : Int), (17 : Int), AR w) else (G w 4, (0 : Int), AR (deferW w p))) else ((0 : Int), busyE w n p true, AR w)) := by
  have hb := hs.big; have hh := hs.hi; have hg := hs.u.G 4
  unfold m_arena_Arena_Defer
  rw [arena_busy hs]
  simp only [Option.bind_some]
  by_cases e : busyE w n p true = 0
  · obtain ⟨q1, q2, _, _⟩ := busy_ok e
    simp only [e, bne_self_eq_false, Bool.false_eq_true, if_false, if_true, mem_Load (w := w) (i := 4) (by omega) (by omega), Option.bind_some]
    by_cases e2 : G w 4 = 1099511627776
    · simp [e2]
    · rw [if_neg (by simpa using e2), if_neg e2]
      have hf := hs.fit q1 q2
      have l1 : (putW w p (defP (G w 2) (G w 4))).length = w.length := putW_length _ _ _
      have e3 : m_arena_Arena_put (AR w) p ((((List.replicate 128 (0 : Int)).set 8 255).set 10 (G w 2)).set 11 (G w 4)) = some (AR (putW w p (defP (G w 2) (G w 4)))) := arena_put hf _
      simp only [mem_Load (w := w) (i := 2) (by omega) (by omega), Option.bind_some, e3, mem_Store (w := putW w p (defP (G w 2) (G w 4))) (i := 2) (by omega) (by omega),
        mem_Store (w := wr (putW w p (defP (G w 2) (G w 4))) 2 (IntKind.u64.wrap p)) (i := 4) (by omega) (by rw [wr_length]; omega)]
      rw [wU (x := p) (by omega) (by omega), wU (x := G w 4 + 1) (by omega) (by omega), wI (x := G w 4) (by omega) (by omega)]
      rfl
  · rw [if_pos (by simpa using e), if_neg e]
theorem Sz.defer {w : List Int} {n p : Int} (hs : Sz w n) (h0 : 1 ≤ p) (h1 : p ≤ n) (hm : G w 4 ≤ 1099511627776) : Sz (deferW w p) n := by
  have hb := hs.big; have hh := hs.hi; have g2 := hs.u.G 2; have g4 := hs.u.G 4
  have l1 : (putW w p (defP (G w 2) (G w 4))).length = w.length := putW_length _ _ _
  exact ((hs.put h0 (defP_u g2.1 g2.2 g4.1 g4.2)).wr (i := 2) (by omega) (by omega) (by omega) (by omega)).wr (i := 4) (by omega) (by rw [wr_length]; omega) (by omega) (by omega)
theorem G_defer_pl {w : List Int} {n p q : Int} (hs : Sz w n) (h0 : 1 ≤ p) (h1 : p ≤ n) (h2 : 1 ≤ q) (h3 : q ≤ n) {i : Int} (h4 : 8 ≤ i) (h5 : i < 128) : G (deferW w p) (pl q i) = if q = p then (if i = 11 then G w 4 else if i = 10 then G w 2 else if i = 8 then 255 else 0) else G w (pl q i) := by
  unfold deferW
  rw [G_wr_pl (((hs.fit h2 h3).put _ _).wr _ _) (by omega) (by omega) _ (by omega), G_wr_pl ((hs.fit h2 h3).put _ _) (by omega) (by omega) _ (by omega), G_put_pl (hs.fit h2 h3) (hs.fit h0 h1) _ h4 h5, G_defP _ _ (by omega)]
theorem defer_K {w : List Int} {n p q : Int} (hs : Sz w n) (h0 : 1 ≤ p) (h1 : p ≤ n) (h2 : 1 ≤ q) (h3 : q ≤ n) : K (deferW w p) q = if q = p then 255 else K w q := by
  have := G_defer_pl hs h0 h1 h2 h3 (i := 8) (by omega) (by omega)
  unfold K
  rw [this]
  rfl
theorem defer_head {w : List Int} {n p : Int} (hs : Sz w n) (h0 : 1 ≤ p) (h1 : p ≤ n) {j : Int} (h2 : 0 ≤ j) (h3 : j < 16) : G (deferW w p) j = if j = 4 then G w 4 + 1 else if j = 2 then p else G w j := by
  have hb := hs.big
  have l1 : (putW w p (defP (G w 2) (G w 4))).length = w.length := putW_length _ _ _
  unfold deferW
  rw [G_wr (by omega) (by rw [wr_length]; omega) _ h2, G_wr (by omega) (by omega) _ h2, G_put_head (hs.fit h0 h1) _ h2 (by omega)]
theorem AI.defer {w : List Int} {n q : Int} {fl dl : List Int} (h : AI w n fl dl) (hb : busyE w n q true = 0) (hm : G w 4 ≠ 1099511627776) : AI (deferW w q) n fl (q :: dl) := by
  have hsz := h.sz
  have hm2 := h.m2
  have hm1 := h.m1
  obtain ⟨q1, q2, qu, qr⟩ := busy_ok hb
  have qr := qr rfl
  have qu2 := usedK_iff.1 qu
  have hk : ∀ x, 1 ≤ x → x ≤ n → K (deferW w q) x = if x = q then 255 else K w x := fun x x1 x2 => defer_K hsz q1 q2 x1 x2
  have hlk : ∀ x i, 1 ≤ x → x ≤ n → 8 ≤ i → i < 128 → G (deferW w q) (pl x i) = if x = q then (if i = 11 then G w 4 else if i = 10 then G w 2 else if i = 8 then 255 else 0) else G w (pl x i) := fun x i x1 x2 x3 x4 => G_defer_pl hsz q1 q2 x1 x2 x3 x4
  have hhd : ∀ j, 0 ≤ j → j < 16 → G (deferW w q) j = if j = 4 then G w 4 + 1 else if j = 2 then q else G w j := fun j j1 j2 => defer_head hsz q1 q2 j1 j2
  have fq : q ∉ fl := fun hm => by have := (h.free.mem q hm).2.2; omega
  have dq : q ∉ dl := fun hm => by have := (h.defd.mem q hm).2.2; omega
  have h4 : G (deferW w q) 4 = G w 4 + 1 := by rw [hhd 4 (by omega) (by omega), if_pos rfl]
  have hmq : mrk (deferW w q) q = G w 4 := by unfold mrk; rw [hlk q 11 q1 q2 (by omega) (by omega), if_pos rfl, if_pos rfl]
  refine ⟨hsz.defer q1 q2 hm2, ?_, ?_, h.fnd, List.nodup_cons.2 ⟨dq, h.dnd⟩, fun x x1 x2 x3 => ?_, fun x x1 x2 x3 => ?_, fun x x1 x2 => ?_, ?_, ?_, ?_, ?_⟩
  · refine h.free.frame (by rw [hhd 1 (by omega) (by omega), if_neg (by omega), if_neg (by omega)]) fun x hx => ?_
    obtain ⟨x1, x2, _⟩ := h.free.mem x hx
    have hne : x ≠ q := fun e => fq (e ▸ hx)
    exact ⟨by rw [hk x x1 x2, if_neg hne], by rw [hlk x 10 x1 x2 (by omega) (by omega), if_neg hne]⟩
  · have hfr : ∀ x ∈ dl, K (deferW w q) x = K w x ∧ G (deferW w q) (pl x 10) = G w (pl x 10) := fun x hx => by
      obtain ⟨x1, x2, _⟩ := h.defd.mem x hx
      have hne : x ≠ q := fun e => dq (e ▸ hx)
      exact ⟨by rw [hk x x1 x2, if_neg hne], by rw [hlk x 10 x1 x2 (by omega) (by omega), if_neg hne]⟩
    refine ⟨by rw [hhd 2 (by omega) (by omega), if_neg (by omega), if_pos rfl], q1, q2, by rw [hk q q1 q2, if_pos rfl], ?_⟩
    have e1 : G (deferW w q) (pl q 10) = G w 2 := by rw [hlk q 10 q1 q2 (by omega) (by omega), if_pos rfl, if_neg (by omega), if_pos rfl]
    have hf := h.defd
    cases dl with
    | nil => show G (deferW w q) (pl q 10) = 0; rw [e1]; exact hf
    | cons y s =>
      obtain ⟨y1, y2, y3, y4, y5⟩ := hf
      obtain ⟨z1, z2⟩ := hfr y (List.mem_cons_self ..)
      exact ⟨e1.trans y1, y2, y3, z1.trans y4, y5.frame z2 (fun x hx => hfr x (List.mem_cons_of_mem _ hx))⟩
  · rw [hk x x1 x2] at x3
    by_cases e1 : x = q
    · rw [if_pos e1] at x3; omega
    · rw [if_neg e1] at x3; exact h.fall x x1 x2 x3
  · rw [hk x x1 x2] at x3
    by_cases e1 : x = q
    · rw [e1]; exact List.mem_cons_self ..
    · rw [if_neg e1] at x3; exact List.mem_cons_of_mem _ (h.dall x x1 x2 x3)
  · rw [hk x x1 x2]
    by_cases e1 : x = q
    · rw [if_pos e1]; exact .inr (.inr rfl)
    · rw [if_neg e1]; exact h.kinds x x1 x2
  · refine ⟨by rw [hmq]; omega, by rw [hmq, h4]; omega, ?_⟩
    rw [hmq]
    refine h.marks.frame (Int.le_refl _) fun x hx => ?_
    obtain ⟨x1, x2, _⟩ := h.defd.mem x hx
    have hne : x ≠ q := fun e => dq (e ▸ hx)
    unfold mrk
    rw [hlk x 11 x1 x2 (by omega) (by omega), if_neg hne]
  · rw [h4]; omega
  · rw [h4]; omega
  · rw [hhd 3 (by omega) (by omega), if_neg (by omega), if_neg (by omega)]
    rcases h.root with e1 | ⟨e1, e2, e3⟩
    · exact .inl e1
    · exact .inr ⟨e1, e2, by rw [hk _ e1 e2, if_neg qr]; exact e3⟩

theorem arena_Write {w p : List Int} {n : Int} (hs : Sz w n) (q : Int) (hp : PageOK p) : m_arena_Arena_Write (AR w) q p = some (if busyE w n q false = 0 then (if validB p = true then ((0 : Int), AR (putW w q p)) else ((12 : Int), AR w)) else (busyE w n q false, AR w)) := by
  unfold m_arena_Arena_Write
  rw [arena_busy hs]
  simp only [Option.bind_some]
  by_cases e : busyE w n q false = 0
  · obtain ⟨q1, q2, _, _⟩ := busy_ok e
    simp only [e, bne_self_eq_false, Bool.false_eq_true, if_false, if_true, slot_Valid hp, Option.bind_some]
    cases hv : validB p with
    | false => simp
    | true => simp only [Bool.not_true, Bool.false_eq_true, if_false, if_true, arena_put (hs.fit q1 q2), Option.bind_some]
  · rw [if_pos (by simpa using e), if_neg e]
theorem AI.write {w p : List Int} {n q : Int} {fl dl : List Int} (h : AI w n fl dl) (hp : PageOK p) (hv : validB p = true) (hb : busyE w n q false = 0) : AI (putW w q p) n fl dl := by
  have hsz := h.sz
  obtain ⟨q1, q2, qu, _⟩ := busy_ok hb
  have qu2 := usedK_iff.1 qu
  have hu := valid_used hv
  have hu2 := usedK_iff.1 hu
  have hk : ∀ x, 1 ≤ x → x ≤ n → K (putW w q p) x = if x = q then G p 8 else K w x := fun x x1 x2 => K_put (hsz.fit x1 x2) (hsz.fit q1 q2) p
  have hlk : ∀ x i, 1 ≤ x → x ≤ n → 8 ≤ i → i < 128 → G (putW w q p) (pl x i) = if x = q then G p i else G w (pl x i) := fun x i x1 x2 x3 x4 => G_put_pl (hsz.fit x1 x2) (hsz.fit q1 q2) p x3 x4
  have hhd : ∀ j, 0 ≤ j → j < 16 → G (putW w q p) j = G w j := fun j j1 j2 => G_put_head (hsz.fit q1 q2) p j1 (by omega)
  have fq : q ∉ fl := fun hm => by have := (h.free.mem q hm).2.2; omega
  have dq : q ∉ dl := fun hm => by have := (h.defd.mem q hm).2.2; omega
  refine ⟨hsz.put q1 hp.2, ?_, ?_, h.fnd, h.dnd, fun x x1 x2 x3 => ?_, fun x x1 x2 x3 => ?_, fun x x1 x2 => ?_, ?_, ?_, ?_, ?_⟩
  · refine h.free.frame (hhd 1 (by omega) (by omega)) fun x hx => ?_
    obtain ⟨x1, x2, _⟩ := h.free.mem x hx
    have hne : x ≠ q := fun e => fq (e ▸ hx)
    exact ⟨by rw [hk x x1 x2, if_neg hne], by rw [hlk x 10 x1 x2 (by omega) (by omega), if_neg hne]⟩
  · refine h.defd.frame (hhd 2 (by omega) (by omega)) fun x hx => ?_
    obtain ⟨x1, x2, _⟩ := h.defd.mem x hx
    have hne : x ≠ q := fun e => dq (e ▸ hx)
    exact ⟨by rw [hk x x1 x2, if_neg hne], by rw [hlk x 10 x1 x2 (by omega) (by omega), if_neg hne]⟩
  · rw [hk x x1 x2] at x3
    by_cases e1 : x = q
    · rw [if_pos e1] at x3; omega
    · rw [if_neg e1] at x3; exact h.fall x x1 x2 x3
  · rw [hk x x1 x2] at x3
    by_cases e1 : x = q
    · rw [if_pos e1] at x3; omega
    · rw [if_neg e1] at x3; exact h.dall x x1 x2 x3
  · rw [hk x x1 x2]
    by_cases e1 : x = q
    · rw [if_pos e1]; exact .inr (.inl hu)
    · rw [if_neg e1]; exact h.kinds x x1 x2
  · refine h.marks.frame (by rw [hhd 4 (by omega) (by omega)]; omega) fun x hx => ?_
    obtain ⟨x1, x2, _⟩ := h.defd.mem x hx
    have hne : x ≠ q := fun e => dq (e ▸ hx)
    unfold mrk
    rw [hlk x 11 x1 x2 (by omega) (by omega), if_neg hne]
  · rw [hhd 4 (by omega) (by omega)]; exact h.m1
  · rw [hhd 4 (by omega) (by omega)]; exact h.m2
  · rw [hhd 3 (by omega) (by omega)]
    rcases h.root with e1 | ⟨e1, e2, e3⟩
    · exact .inl e1
    · refine .inr ⟨e1, e2, ?_⟩
      rw [hk _ e1 e2]
      split
      · exact hu
      · exact e3
end Go.Ev.L
