/- Pages made of slots: what the program and the reference make. -/
import Derived.Test.YtfohnbfhajkelaaO3
set_option linter.unusedVariables false
set_option linter.unusedSimpArgs false
set_option linter.unusedSectionVars false
set_option maxRecDepth 10000
namespace Go.Ev.L
open Go Go.Ev Go.Ev.M

/-- a page without slots -/
structure Bare (p : List Int) : Prop where
  page : PageOK p
  valid : validB p = true
  nine : G p 9 = 0
  top : G p 11 = 128
theorem Bare.count {p : List Int} (h : Bare p) : count p = 0 := by unfold L.count; rw [h.nine]; rfl
theorem Bare.pairs {p : List Int} (h : Bare p) : pairsS p = [] := by unfold pairsS; rw [h.count]; rfl

def emptyP (level : Int) (low high : ByteArray) (next : Int) : List Int := (emptyS level low high).set 10 next
theorem G_emptyLow {level : Int} {low high : ByteArray} (hl : low.size ≤ 24) (hh : high.size ≤ 24) (j : Int) (h0 : 12 ≤ j) (h1 : j < 16) : G (emptyS level low high) j = if j = 12 then (low.size : Int) else G (packS low) (j - 13) := by
  have p1 := packS_len3 hl
  have p2 := packS_len3 hh
  unfold emptyS
  rw [G_splice (by omega) (by rw [splice_length _ _ (by omega) (by simp; omega)]; simp; omega) j (by omega), if_neg (by omega), G_splice (by omega) (by simp; omega) j (by omega)]
  by_cases c1 : j = 12
  · rw [if_neg (by omega), G_set (by simp) j (by omega), if_neg (by omega), G_set (by simp) j (by omega), if_pos (by omega), if_pos c1]
  · rw [if_neg c1]
    by_cases c2 : 13 ≤ j ∧ j < 13 + ((packS low).length : Int)
    · rw [if_pos c2]
    · rw [if_neg c2, G_set (by simp) j (by omega), if_neg (by omega), G_set (by simp) j (by omega), if_neg (by omega), G_set (by simp) j (by omega), if_neg (by omega), G_set (by simp) j (by omega), if_neg (by omega), G_out (l := packS low) (by omega)]
      unfold G
      rw [List.getD_eq_getElem?_getD, List.getElem?_replicate]; split <;> rfl
theorem G_emptyTail {level : Int} {low high : ByteArray} (hl : low.size ≤ 24) (hh : high.size ≤ 24) (j : Int) (h0 : 20 ≤ j) : G (emptyS level low high) j = 0 := by
  have p1 := packS_len3 hl
  have p2 := packS_len3 hh
  unfold emptyS
  rw [G_splice (by omega) (by rw [splice_length _ _ (by omega) (by simp; omega)]; simp; omega) j (by omega), if_neg (by omega), G_splice (by omega) (by simp; omega) j (by omega), if_neg (by omega), G_set (by simp) j (by omega), if_neg (by omega), G_set (by simp) j (by omega), if_neg (by omega), G_set (by simp) j (by omega), if_neg (by omega), G_set (by simp) j (by omega), if_neg (by omega)]
  unfold G
  rw [List.getD_eq_getElem?_getD, List.getElem?_replicate]; split <;> rfl

section
variable {level : Int} {low high : ByteArray} {next : Int} (h0 : 0 ≤ level) (h1 : level ≤ 5) (hl : low.size ≤ 24) (hh : high.size ≤ 24) (n0 : 0 ≤ next) (n1 : next ≤ 511)
include h0 h1 hl hh n0 n1
theorem emptyP_page : PageOK (emptyP level low high next) := (empty_page (by omega) (by omega) hl hh).set 10 (by omega) (by omega)
theorem G_emptyP (j : Int) (hj : 0 ≤ j) : G (emptyP level low high next) j = if j = 10 then next else G (emptyS level low high) j := by
  unfold emptyP
  rw [G_set (by rw [(empty_page (level := level) (by omega) (by omega) hl hh).1]; omega) j hj]; rfl
theorem emptyP_facts : Bare (emptyP level low high next) ∧ lowS (emptyP level low high next) = low ∧ highS (emptyP level low high next) = high ∧ G (emptyP level low high next) 8 = level + 1 ∧ G (emptyP level low high next) 10 = next := by
  have hp := emptyP_page h0 h1 hl hh n0 n1
  have g := G_emptyP h0 h1 hl hh n0 n1
  have g8 : G (emptyP level low high next) 8 = level + 1 := by rw [g 8 (by omega), if_neg (by omega), G_empty hl hh 8 (by omega) (by omega), if_pos rfl]; omega
  have g9 : G (emptyP level low high next) 9 = 0 := by rw [g 9 (by omega), if_neg (by omega), G_empty hl hh 9 (by omega) (by omega), if_neg (by omega), if_neg (by omega)]
  have g10 : G (emptyP level low high next) 10 = next := by rw [g 10 (by omega), if_pos rfl]
  have g11 : G (emptyP level low high next) 11 = 128 := by rw [g 11 (by omega), if_neg (by omega), G_empty hl hh 11 (by omega) (by omega), if_neg (by omega), if_pos rfl]
  have f12 : fenceS (emptyP level low high next) 12 = some low := fence_written hp (by omega) (by omega) hl (by rw [g 12 (by omega), if_neg (by omega), G_emptyLow hl hh 12 (by omega) (by omega), if_pos rfl]) fun j k0 k1 => by
    rw [g _ (by omega), if_neg (by omega), G_emptyLow hl hh _ (by omega) (by omega), if_neg (by omega)]; congr 1; omega
  have f16 : fenceS (emptyP level low high next) 16 = some high := fence_written hp (by omega) (by omega) hh (by rw [g 16 (by omega), if_neg (by omega), G_emptyHigh hl hh 16 (by omega) (by omega), if_pos rfl]) fun j k0 k1 => by
    rw [g _ (by omega), if_neg (by omega), G_emptyHigh hl hh _ (by omega) (by omega), if_neg (by omega)]; congr 1; omega
  refine ⟨⟨hp, ?_, g9, g11⟩, by unfold lowS; rw [f12]; rfl, by unfold highS; rw [f16]; rfl, g8, g10⟩
  have hc : count (emptyP level low high next) = 0 := by unfold count; rw [g9]; rfl
  unfold validB headB
  rw [hc, g8, g9, g10, g11, f12, f16]
  simp [validFrom, n1]
  omega
end

def foldP (p : List Int) (l : List Pr) : List Int := l.foldl putS p
theorem sumC_nonneg {l : List Pr} (h : ∀ x, x ∈ l → x.1.size ≤ 1000 ∧ x.2.1.size ≤ 1000) : (l.length : Int) ≤ sumC l := by
  induction l with
  | nil => simp [sumC]
  | cons x r ih =>
    have := costS_range (h x (List.mem_cons_self ..))
    have := ih fun y hy => h y (List.mem_cons_of_mem _ hy)
    simp only [sumC, List.length_cons]; omega
structure Folded (p : List Int) (l : List Pr) (q : List Int) : Prop where
  page : PageOK q
  valid : validB q = true
  pairs : pairsS q = pairsS p ++ l
  head : ∀ j, 0 ≤ j → j < 20 → j ≠ 9 → j ≠ 11 → G q j = G p j
  nine : G q 9 = G p 9 + l.length
  top : G q 11 = G p 11 - (sumC l - l.length)
theorem fold_valid : ∀ (l : List Pr) {p : List Int}, PageOK p → validB p = true → (∀ (k : Nat) (hk : k < l.length), allowedS (G p 8 == 1) ((count p : Int) + k) (l[k]) = 0) → 20 + G p 9 + sumC l ≤ G p 11 → Folded p l (foldP p l) := by
  intro l
  induction l with
  | nil => intro p hp hv _ _; exact ⟨hp, hv, by simp [foldP], fun _ _ _ _ _ => rfl, by simp [foldP], by simp [foldP, sumC]⟩
  | cons x r ih =>
    intro p hp hv ha hr
    have ha0 := ha 0 (by simp)
    simp only [List.getElem_cons_zero] at ha0
    have ha0 : allowedS (G p 8 == 1) (count p) x = 0 := by simpa using ha0
    have hsz : ∀ y, y ∈ r → y.1.size ≤ 1000 ∧ y.2.1.size ≤ 1000 := fun y hy => by
      obtain ⟨k, hk, rfl⟩ := List.getElem_of_mem hy
      have := allowed_spec (ha (k + 1) (by simp; omega))
      simp only [List.getElem_cons_succ] at this
      omega
    have hsr := sumC_nonneg hsz
    simp only [sumC] at hr
    have hroom : 20 + G p 9 + costS x ≤ G p 11 := by omega
    obtain ⟨q1, q2, q3, q4, q5⟩ := put_valid hp hv ha0 hroom
    have hq := putS_page (room_of hp hv ha0 hroom)
    obtain ⟨hc, hc9⟩ := count_le hp hv
    obtain ⟨hd, hd9⟩ := count_le hq q1
    have g8 := q3 8 (by omega) (by omega) (by omega) (by omega)
    obtain ⟨r1, r2, r3, r4, r5, r6⟩ := ih hq q1 (fun k hk => by
      have := ha (k + 1) (by simp; omega)
      simp only [List.getElem_cons_succ] at this
      rw [g8, show ((count (putS p x) : Nat) : Int) + (k : Int) = (count p : Int) + ((k + 1 : Nat) : Int) by omega]
      exact this) (by omega)
    refine ⟨r1, r2, ?_, fun j k0 k1 k2 k3 => (r4 j k0 k1 k2 k3).trans (q3 j k0 k1 k2 k3), ?_, ?_⟩
    · show pairsS (foldP (putS p x) r) = _
      rw [r3, q2]; simp
    · show G (foldP (putS p x) r) 9 = _
      rw [r5, q4]; simp; omega
    · show G (foldP (putS p x) r) 11 = _
      rw [r6, q5]; simp only [sumC, List.length_cons]; omega
/-- while slots are put, there is room -/
theorem fold_room : ∀ (l : List Pr) {p : List Int} (x : Pr) (r : List Pr), PageOK p → validB p = true → (∀ (k : Nat) (hk : k < (l ++ x :: r).length), allowedS (G p 8 == 1) ((count p : Int) + k) ((l ++ x :: r)[k]) = 0) → 20 + G p 9 + sumC (l ++ x :: r) ≤ G p 11 → Room (foldP p l) x := by
  intro l
  induction l with
  | nil =>
    intro p x r hp hv ha hr
    have ha0 := ha 0 (by simp)
    simp only [List.nil_append, List.getElem_cons_zero] at ha0
    have hsz : ∀ y, y ∈ r → y.1.size ≤ 1000 ∧ y.2.1.size ≤ 1000 := fun y hy => by
      obtain ⟨k, hk, rfl⟩ := List.getElem_of_mem hy
      have := allowed_spec (ha (k + 1) (by simp; omega))
      simp only [List.nil_append, List.getElem_cons_succ] at this
      omega
    have hsr := sumC_nonneg hsz
    simp only [List.nil_append, sumC] at hr
    exact room_of hp hv (by simpa using ha0) (by omega)
  | cons y l ih =>
    intro p x r hp hv ha hr
    have ha0 := ha 0 (by simp)
    simp only [List.cons_append, List.getElem_cons_zero] at ha0
    have ha0 : allowedS (G p 8 == 1) (count p) y = 0 := by simpa using ha0
    have hsz : ∀ z, z ∈ l ++ x :: r → z.1.size ≤ 1000 ∧ z.2.1.size ≤ 1000 := fun z hz => by
      obtain ⟨k, hk, rfl⟩ := List.getElem_of_mem hz
      have := allowed_spec (ha (k + 1) (by simp at hk ⊢; omega))
      simp only [List.cons_append, List.getElem_cons_succ] at this
      omega
    have hsr := sumC_nonneg hsz
    simp only [List.cons_append, sumC] at hr
    have hroom : 20 + G p 9 + costS y ≤ G p 11 := by omega
    obtain ⟨q1, q2, q3, q4, q5⟩ := put_valid hp hv ha0 hroom
    have hq := putS_page (room_of hp hv ha0 hroom)
    obtain ⟨hc, hc9⟩ := count_le hp hv
    obtain ⟨hd, hd9⟩ := count_le hq q1
    have g8 := q3 8 (by omega) (by omega) (by omega) (by omega)
    exact ih x r hq q1 (fun k hk => by
      have := ha (k + 1) (by simp at hk ⊢; omega)
      simp only [List.cons_append, List.getElem_cons_succ] at this
      rw [g8, show ((count (putS p y) : Nat) : Int) + (k : Int) = (count p : Int) + ((k + 1 : Nat) : Int) by omega]
      exact this) (by omega)

section
variable {l : List Pr} {p : List Int} (hp : PageOK p) (hv : validB p = true) (ha : ∀ (k : Nat) (hk : k < l.length), allowedS (G p 8 == 1) ((count p : Int) + k) (l[k]) = 0) (hr : 20 + G p 9 + sumC l ≤ G p 11) (hlen : l.length ≤ 1000)
include hp hv ha hr hlen
theorem room_at {i : Nat} (hi : i < l.length) : Room (foldP p (l.take i)) (l[i]) := by
  have hs : l = l.take i ++ l[i] :: l.drop (i + 1) := by rw [← List.drop_eq_getElem_cons hi, List.take_append_drop]
  refine fold_room (l.take i) (l[i]) (l.drop (i + 1)) hp hv (fun k hk => ?_) (by rw [← hs]; exact hr)
  have hk' : k < l.length := by rw [hs]; exact hk
  have e : (l.take i ++ l[i] :: l.drop (i + 1))[k] = l[k] := by
    have : (l.take i ++ l[i] :: l.drop (i + 1))[k]? = l[k]? := by rw [← hs]
    rw [List.getElem?_eq_getElem hk, List.getElem?_eq_getElem hk'] at this
    exact Option.some.inj this
  rw [e]; exact ha k hk'
theorem fold_step {i : Nat} (hi : i < l.length) : foldP p (l.take (i + 1)) = putS (foldP p (l.take i)) (l[i]) := by
  unfold foldP; rw [List.take_succ_eq_append_getElem hi, List.foldl_append]; rfl
theorem compact_l0 : ∀ (m n N i : Nat), i + m = l.length → m < n → m_page_compact_l0 N n l l.length i (foldP p (l.take i)) = some (foldP p l) := by
  intro m
  induction m with
  | zero =>
    intro n N i hm hn
    obtain ⟨n, rfl⟩ : ∃ q, n = q + 1 := ⟨n - 1, by omega⟩
    simp only [m_page_compact_l0, m_page_compact_l0_b, show ¬ (i : Int) < (l.length : Int) by omega, decide_false, Bool.false_eq_true, if_false]
    rw [List.take_of_length_le (by omega)]
  | succ m ih =>
    intro n N i hm hn
    obtain ⟨n, rfl⟩ : ∃ q, n = q + 1 := ⟨n - 1, by omega⟩
    have hi : i < l.length := by omega
    have IH := ih n N (i + 1) (by omega) (by omega)
    have w2 : IntKind.i64.wrap ((i : Int) + 1) = ((i + 1 : Nat) : Int) := by rw [wI (by omega) (by omega)]; omega
    have R := room_at hp hv ha hr hlen hi
    obtain ⟨a1, a2, a3, a4⟩ := allowed_spec (ha i hi)
    have hrec : m_page_record (foldP p (l.take i)) (l[i]).1 (l[i]).2.1 = some (putS (foldP p (l.take i)) (l[i])) := page_record R (by omega) a4
    rw [fold_step hp hv ha hr hlen hi] at IH
    simp only [m_page_compact_l0, m_page_compact_l0_b, show (i : Int) < (l.length : Int) by omega, decide_true, if_true, Int.natCast_nonneg, rd_GP, GP_get hi, hrec, Option.bind_some, w2, IH]
theorem of_l1 (z : List Int) : ∀ (m n N i : Nat), i + m = l.length → m < n → m_ticketlineref16_Of_l1 N n l i z (foldP p (l.take i)) = some (foldP p l, 0) := by
  intro m
  induction m with
  | zero =>
    intro n N i hm hn
    obtain ⟨n, rfl⟩ : ∃ q, n = q + 1 := ⟨n - 1, by omega⟩
    simp only [m_ticketlineref16_Of_l1, m_ticketlineref16_Of_l1_b, show ¬ (i : Int) < (l.length : Int) by omega, decide_false, Bool.false_eq_true, if_false]
    rw [List.take_of_length_le (by omega)]
  | succ m ih =>
    intro n N i hm hn
    obtain ⟨n, rfl⟩ : ∃ q, n = q + 1 := ⟨n - 1, by omega⟩
    have hi : i < l.length := by omega
    have IH := ih n N (i + 1) (by omega) (by omega)
    have w2 : IntKind.i64.wrap ((i : Int) + 1) = ((i + 1 : Nat) : Int) := by rw [wI (by omega) (by omega)]; omega
    have hrec := ref_Put' (room_at hp hv ha hr hlen hi)
    rw [fold_step hp hv ha hr hlen hi] at IH
    simp only [m_ticketlineref16_Of_l1, m_ticketlineref16_Of_l1_b, show (i : Int) < (l.length : Int) by omega, decide_true, if_true, Int.natCast_nonneg, rd_GP, GP_get hi, hrec, Option.bind_some, w2, IH]
end

def makeE (level : Int) (low high : ByteArray) (next : Int) : Int := if level < 0 ∨ 5 < level then 2 else if 24 < low.size ∨ 24 < high.size then 5 else if high ≠ eB ∧ strLt low high = false then 13 else if next < 0 ∨ 511 < next then 3 else 0
def errF (leaf : Bool) (l : List Pr) (i : Nat) : Nat → Int
  | 0 => 0
  | m + 1 => if allowedS leaf i (GP l i) ≠ 0 then allowedS leaf i (GP l i) else if 0 < i ∧ strLt (GP l ((i : Int) - 1)).1 (GP l i).1 = false then 13 else errF leaf l (i + 1) m
theorem errF_zero {leaf : Bool} {l : List Pr} : ∀ (m i : Nat), errF leaf l i m = 0 ↔ ∀ j : Nat, i ≤ j → j < i + m → allowedS leaf j (GP l j) = 0 ∧ (0 < j → strLt (GP l ((j : Int) - 1)).1 (GP l j).1 = true) := by
  intro m
  induction m with
  | zero => intro i; simp only [errF, true_iff]; intro j h1 h2; omega
  | succ m ih =>
    intro i
    simp only [errF]
    by_cases c1 : allowedS leaf i (GP l i) = 0
    · rw [if_neg (by simpa using c1)]
      by_cases c2 : 0 < i ∧ strLt (GP l ((i : Int) - 1)).1 (GP l i).1 = false
      · rw [if_pos c2]
        constructor
        · intro h; omega
        · intro h
          have := (h i (by omega) (by omega)).2 c2.1
          rw [c2.2] at this; cases this
      · rw [if_neg c2, ih]
        constructor
        · intro h j h1 h2
          by_cases e : j = i
          · subst e
            refine ⟨c1, fun h0 => ?_⟩
            cases hx : strLt (GP l ((j : Int) - 1)).1 (GP l j).1 with
            | true => rfl
            | false => exact absurd ⟨h0, hx⟩ c2
          · exact h j (by omega) (by omega)
        · intro h j h1 h2; exact h j (by omega) (by omega)
    · rw [if_pos c1]
      constructor
      · intro h; exact absurd h c1
      · intro h; exact absurd (h i (by omega) (by omega)).1 c1
def ofE (level : Int) (low high : ByteArray) (next : Int) (l : List Pr) : Int := if makeE level low high next ≠ 0 then makeE level low high next else if errF (level == 0) l 0 l.length ≠ 0 then errF (level == 0) l 0 l.length else if sumC l > 108 then 7 else 0
def ofS (level : Int) (low high : ByteArray) (next : Int) (l : List Pr) : List Int := foldP (emptyP level low high next) l

theorem makeE_zero {level : Int} {low high : ByteArray} {next : Int} : makeE level low high next = 0 ↔ 0 ≤ level ∧ level ≤ 5 ∧ low.size ≤ 24 ∧ high.size ≤ 24 ∧ (high = eB ∨ strLt low high = true) ∧ 0 ≤ next ∧ next ≤ 511 := by
  unfold makeE
  by_cases c1 : level < 0 ∨ 5 < level
  · rw [if_pos c1]; constructor
    · intro h; omega
    · intro h; omega
  rw [if_neg c1]
  by_cases c2 : 24 < low.size ∨ 24 < high.size
  · rw [if_pos c2]; constructor
    · intro h; omega
    · intro h; omega
  rw [if_neg c2]
  by_cases c3 : high ≠ eB ∧ strLt low high = false
  · rw [if_pos c3]; constructor
    · intro h; omega
    · rintro ⟨_, _, _, _, h, _⟩
      rcases h with h | h
      · exact absurd h c3.1
      · rw [c3.2] at h; cases h
  rw [if_neg c3]
  have h3 : high = eB ∨ strLt low high = true := by
    by_cases e : high = eB
    · exact .inl e
    · right
      cases h : strLt low high with
      | true => rfl
      | false => exact absurd ⟨e, h⟩ c3
  by_cases c4 : next < 0 ∨ 511 < next
  · rw [if_pos c4]; constructor
    · intro h; omega
    · intro h; omega
  rw [if_neg c4]
  simp only [true_iff]
  exact ⟨by omega, by omega, by omega, by omega, h3, by omega, by omega⟩
end Go.Ev.L
