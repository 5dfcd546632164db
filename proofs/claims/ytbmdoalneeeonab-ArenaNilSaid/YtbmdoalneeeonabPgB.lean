/- Words and bytes: what packing and unpacking compute. -/
import Derived.Test.YtbmdoalneeeonabPgA
import Derived.Test.YtbmdoalneeeonabM14
import Derived.KernelRfl
import Derived.Lib.Bytealg
set_option linter.unusedVariables false
set_option linter.unusedSimpArgs false
namespace Go.Ev.L
open Go Go.Ev Go.Ev.M

def G (p : List Int) (i : Int) : Int := p.getD i.toNat 0
theorem rd_G (k : IntKind) (p : List Int) (i : Int) : rd (.int k) p i = G p i := rfl

/-- how many words some bytes have -/
def W (n : Int) : Int := if n ≤ 0 then 0 else (n + 7) / 8
theorem ref14_Words {n : Int} (h0 : 0 ≤ n) (h : n < 9223372036854775800) : m_ticketlineref14_Words n = some (W n) := by
  unfold m_ticketlineref14_Words W
  rw [wI (x := n + 7) (by omega) (by omega), td8 (by omega), wI (by omega) (by omega)]
  split
  · congr 1; omega
  · rfl
theorem W_nonneg (n : Int) : 0 ≤ W n := by unfold W; split <;> omega
theorem W_le {n : Int} (h : 0 ≤ n) : 8 * W n ≤ n + 7 ∧ n ≤ 8 * W n := by unfold W; split <;> omega

/-- the bytes of a word, the highest first -/
def w8 (w : Int) : List Int := [w / 72057594037927936 % 256, w / 281474976710656 % 256, w / 1099511627776 % 256, w / 4294967296 % 256, w / 16777216 % 256, w / 65536 % 256, w / 256 % 256, w % 256]
/-- words of 64 bits -/
def U64 (l : List Int) : Prop := ∀ x, x ∈ l → 0 ≤ x ∧ x < 18446744073709551616

theorem U64.G {l : List Int} (h : U64 l) (i : Int) : 0 ≤ G l i ∧ G l i < 18446744073709551616 := by
  unfold L.G
  rw [List.getD_eq_getElem?_getD]
  cases e : l[i.toNat]? with
  | none => simp
  | some x => exact h x (List.mem_of_getElem? e)

theorem FUEL_big : 1000000 < FUEL := by unfold FUEL; omega

end Go.Ev.L

/- The reference's text of words. -/
set_option linter.unusedVariables false
set_option linter.unusedSimpArgs false
namespace Go.Ev.L
open Go Go.Ev Go.Ev.M

end Go.Ev.L

/- A page's fences, head and slots: what the program computes. -/
set_option linter.unusedVariables false
set_option linter.unusedSimpArgs false
namespace Go.Ev.L
open Go Go.Ev Go.Ev.M

/-- 128 words -/
def PageOK (p : List Int) : Prop := p.length = 128 ∧ U64 p

theorem U64.win {l : List Int} (h : U64 l) (a n : Int) : U64 (win l a n) := fun x hx => h x (List.mem_of_mem_drop (List.mem_of_mem_take hx))
def atS (w : Int) : Int := w / 65536
def keyS (w : Int) : Int := w / 256 % 256
def valS (w : Int) : Int := w % 256
def midS (w : Int) : Int := atS w + W (keyS w)
def endS (w : Int) : Int := midS w + W (valS w)

/-- the word of a slot -/
def sw (p : List Int) (i : Int) : Int := G p (20 + i)
end Go.Ev.L

/- The slots of a page: what the program computes. -/
set_option linter.unusedVariables false
set_option linter.unusedSimpArgs false
namespace Go.Ev.L
open Go Go.Ev Go.Ev.M

structure Sized (p : List Int) (i : Int) : Prop where
  at0 : 0 ≤ atS (sw p i)
  at1 : atS (sw p i) < 128
  key0 : 0 ≤ keyS (sw p i)
  key : keyS (sw p i) ≤ 24
  val0 : 0 ≤ valS (sw p i)
  val : valS (sw p i) ≤ 40
  end1 : endS (sw p i) ≤ 128
  some : atS (sw p i) < endS (sw p i)
  mid0 : atS (sw p i) ≤ midS (sw p i)
  mid1 : midS (sw p i) ≤ endS (sw p i)
  inner : G p 8 ≠ 1 → valS (sw p i) = 8
  low : G p 11 ≤ atS (sw p i)
  mid2 : G p 8 ≠ 1 → midS (sw p i) < 128

def setT (t : List Bool) (w : Nat) : Nat → List Bool
  | 0 => t
  | n + 1 => setT (t.set w true) (w + 1) n
theorem setT_length : ∀ (n w : Nat) (t : List Bool), (setT t w n).length = t.length := by
  intro n
  induction n with
  | zero => intro w t; rfl
  | succ n ih => intro w t; simp only [setT, ih, List.length_set]
theorem setT_getD : ∀ (n w : Nat) (t : List Bool) (x : Nat), x < t.length → (setT t w n).getD x false = (t.getD x false || (decide (w ≤ x) && decide (x < w + n))) := by
  intro n
  induction n with
  | zero =>
    intro w t x hx
    have : (decide (w ≤ x) && decide (x < w + 0)) = false := by
      rw [Bool.eq_false_iff]; simp only [ne_eq, Bool.and_eq_true, decide_eq_true_eq]; omega
    simp only [setT, this, Bool.or_false]
  | succ n ih =>
    intro w t x hx
    simp only [setT]
    rw [ih (w + 1) _ x (by simpa using hx)]
    by_cases e : x = w
    · subst e
      have h1 : (t.set x true).getD x false = true := by
        rw [List.getD_eq_getElem?_getD, List.getElem?_set_self hx]; rfl
      rw [h1]
      simp
    · have h1 : (t.set w true).getD x false = t.getD x false := by
        simp only [List.getD_eq_getElem?_getD, List.getElem?_set_ne (show w ≠ x from fun h => e h.symm)]
      have h2 : (decide (w + 1 ≤ x) && decide (x < w + 1 + n)) = (decide (w ≤ x) && decide (x < w + (n + 1))) := by
        rw [Bool.eq_iff_iff]; simp only [Bool.and_eq_true, decide_eq_true_eq]; omega
      rw [h1, h2]

/-- the words of the first slots are taken -/
def TK (p : List Int) (i : Nat) (t : List Bool) : Prop := t.length = 128 ∧ ∀ x : Nat, x < 128 → (t.getD x false = true ↔ ∃ j : Nat, j < i ∧ atS (sw p j) ≤ x ∧ (x : Int) < endS (sw p j))

theorem TK.zero (p : List Int) : TK p 0 (List.replicate 128 false) := by
  refine ⟨by simp, fun x hx => ?_⟩
  have : (List.replicate 128 false).getD x false = false := by
    rw [List.getD_eq_getElem?_getD, List.getElem?_replicate]; split <;> rfl
  rw [this]
  simp
theorem TK.succ {p : List Int} {i : Nat} {t : List Bool} (h : TK p i t) (hs : Sized p i) : TK p (i + 1) (setT t (atS (sw p i)).toNat (endS (sw p i) - atS (sw p i)).toNat) := by
  have h1 := hs.at0
  have h2 := hs.some
  refine ⟨by rw [setT_length]; exact h.1, fun x hx => ?_⟩
  rw [setT_getD _ _ _ _ (by rw [h.1]; exact hx), Bool.or_eq_true, h.2 x hx, Bool.and_eq_true, decide_eq_true_eq, decide_eq_true_eq]
  constructor
  · rintro (⟨j, g1, g2, g3⟩ | ⟨g1, g2⟩)
    · exact ⟨j, by omega, g2, g3⟩
    · exact ⟨i, by omega, by omega, by omega⟩
  · rintro ⟨j, g1, g2, g3⟩
    by_cases e : j = i
    · subst e; exact .inr ⟨by omega, by omega⟩
    · exact .inl ⟨j, by omega, g2, g3⟩

end Go.Ev.L

/- The slots of a page: what the reference computes. -/
set_option linter.unusedVariables false
set_option linter.unusedSimpArgs false
namespace Go.Ev.L
open Go Go.Ev Go.Ev.M

end Go.Ev.L

/- What the other functions of a page answer; that the program's answers are the reference's. -/
set_option linter.unusedVariables false
set_option linter.unusedSimpArgs false
namespace Go.Ev.L
open Go Go.Ev Go.Ev.M

abbrev Pr := ByteArray × (ByteArray × Unit)
abbrev eB : ByteArray := ⟨#[]⟩

theorem G_get {l : List Int} {i : Nat} (h : i < l.length) : G l (i : Int) = l[i] := by
  unfold G; rw [show (i : Int).toNat = i by omega, List.getD_eq_getElem?_getD, List.getElem?_eq_getElem h]; rfl

end Go.Ev.L

/- Law 14: the answers for any page are the reference's. -/
set_option linter.unusedVariables false
set_option linter.unusedSimpArgs false
namespace Go.Ev.L
open Go Go.Ev Go.Ev.M

theorem PageOK.set {p : List Int} (h : PageOK p) (i : Nat) {x : Int} (h0 : 0 ≤ x) (h1 : x < 18446744073709551616) : PageOK (p.set i x) := by
  refine ⟨by simpa using h.1, fun y hy => ?_⟩
  rcases List.mem_or_eq_of_mem_set hy with hy | rfl
  · exact h.2 y hy
  · exact ⟨h0, h1⟩
theorem page_zero : PageOK (List.replicate 128 0) := ⟨by simp, fun x hx => by rw [List.mem_replicate] at hx; omega⟩

end Go.Ev.L

/- Packing; empty pages. -/
set_option linter.unusedVariables false
set_option linter.unusedSimpArgs false
namespace Go.Ev.L
open Go Go.Ev Go.Ev.M

/-- a byte of a string, 0 behind its end -/
def B (s : ByteArray) (j : Nat) : Int := ((s.data.toList.getD j 0).toNat : Int)
theorem bt_B (s : ByteArray) (i : Int) : bt s i = B s i.toNat := rfl
theorem B_range (s : ByteArray) (j : Nat) : 0 ≤ B s j ∧ B s j < 256 := by
  have := (s.data.toList.getD j 0).toNat_lt
  unfold B; omega
theorem B_out {s : ByteArray} {j : Nat} (h : s.size ≤ j) : B s j = 0 := by
  have : s.data.toList.length ≤ j := by simpa using h
  unfold B; rw [List.getD_eq_getElem?_getD, List.getElem?_eq_none this]; rfl

/-- the first k bytes of a word -/
def part (s : ByteArray) (j : Nat) : Nat → Int
  | 0 => 0
  | k + 1 => 256 * part s j k + B s (8 * j + k)
theorem part_range (s : ByteArray) (j : Nat) : ∀ k, 0 ≤ part s j k ∧ part s j k < 256 ^ k := by
  intro k
  induction k with
  | zero => simp [part]
  | succ k ih =>
    have hb := B_range s (8 * j + k)
    show 0 ≤ 256 * part s j k + B s (8 * j + k) ∧ 256 * part s j k + B s (8 * j + k) < 256 ^ (k + 1)
    rw [Int.pow_succ]
    omega
theorem part_lt {s : ByteArray} {j k : Nat} (h : k ≤ 7) : 0 ≤ part s j k ∧ part s j k < 72057594037927936 := by
  have h1 := part_range s j k
  have h2 : (256 : Int) ^ k ≤ 256 ^ 7 := by
    rcases (by omega : k = 0 ∨ k = 1 ∨ k = 2 ∨ k = 3 ∨ k = 4 ∨ k = 5 ∨ k = 6 ∨ k = 7) with rfl | rfl | rfl | rfl | rfl | rfl | rfl | rfl <;> decide
  have h3 : (256 : Int) ^ 7 = 72057594037927936 := by decide
  omega
def packS (s : ByteArray) : List Int := (List.range (W s.size).toNat).map fun j => part s j 8
theorem packS_length (s : ByteArray) : (packS s).length = (W s.size).toNat := by simp [packS]
theorem refPack_l0 {s : ByteArray} (hs : s.size ≤ 100000) : ∀ (m n N i : Nat), i + m = 8 * (W s.size).toNat → m < n →
    m_ticketlineref14_Pack_l0 N n s i ((List.range (W s.size).toNat).map fun j => part s j (min 8 (i - 8 * j))) = some (packS s) := by
  have hW := W_le (n := (s.size : Int)) (by omega)
  intro m
  induction m with
  | zero =>
    intro n N i hm hn
    obtain ⟨n, rfl⟩ : ∃ q, n = q + 1 := ⟨n - 1, by omega⟩
    have hl : ((List.range (W s.size).toNat).map fun j => part s j (min 8 (i - 8 * j))) = packS s := by
      refine List.map_congr_left fun j hj => ?_
      rw [List.mem_range] at hj
      rw [Nat.min_eq_left (by omega)]
    rw [hl]
    have w1 : IntKind.i64.wrap (8 * ((packS s).length : Int)) = 8 * (packS s).length := wI (by rw [packS_length]; omega) (by rw [packS_length]; omega)
    have hc : ¬ (i : Int) < 8 * ((packS s).length : Int) := by rw [packS_length]; omega
    simp only [m_ticketlineref14_Pack_l0, m_ticketlineref14_Pack_l0_b, w1, hc, decide_false, Bool.false_eq_true, if_false]
  | succ m ih =>
    intro n N i hm hn
    obtain ⟨n, rfl⟩ : ∃ q, n = q + 1 := ⟨n - 1, by omega⟩
    have IH := ih n N (i + 1) (by omega) (by omega)
    generalize hl : ((List.range (W s.size).toNat).map fun j => part s j (min 8 (i - 8 * j))) = out
    have hlen : out.length = (W s.size).toNat := by rw [← hl]; simp
    have hi8 : i / 8 < (W s.size).toNat := by omega
    have hg : G out ((i / 8 : Nat) : Int) = part s (i / 8) (i % 8) := by
      rw [G_get (by omega)]
      subst hl
      rw [List.getElem_map, List.getElem_range, show min 8 (i - 8 * (i / 8)) = i % 8 by omega]
    have hset : out.set (i / 8) (256 * part s (i / 8) (i % 8) + B s i) = (List.range (W s.size).toNat).map fun j => part s j (min 8 (i + 1 - 8 * j)) := by
      refine List.ext_getElem (by simp [hlen]) fun j h1 h2 => ?_
      have hj : j < (W s.size).toNat := by simpa using h2
      rw [List.getElem_map, List.getElem_range, List.getElem_set]
      by_cases e : i / 8 = j
      · subst e
        rw [if_pos rfl, show min 8 (i + 1 - 8 * (i / 8)) = i % 8 + 1 by omega]
        show _ = 256 * part s (i / 8) (i % 8) + B s (8 * (i / 8) + i % 8)
        rw [show 8 * (i / 8) + i % 8 = i by omega]
      · rw [if_neg e]
        subst hl
        rw [List.getElem_map, List.getElem_range]
        congr 1; omega
    have hp := part_lt (s := s) (j := i / 8) (k := i % 8) (by omega)
    have hb := B_range s i
    have w1 : IntKind.i64.wrap (8 * (out.length : Int)) = 8 * out.length := wI (by omega) (by omega)
    have w2 : IntKind.i64.wrap ((i : Int) + 1) = ((i + 1 : Nat) : Int) := by rw [wI (by omega) (by omega)]; omega
    have w3 : IntKind.i64.wrap (Int.tdiv (i : Int) 8) = ((i / 8 : Nat) : Int) := by rw [td8 (by omega), wI (by omega) (by omega)]; omega
    have w4 : IntKind.u64.wrap (256 * part s (i / 8) (i % 8)) = 256 * part s (i / 8) (i % 8) := wU (by omega) (by omega)
    have w5 : IntKind.u64.wrap (bt s i) = B s i := by rw [bt_B, Int.toNat_natCast, wU (by omega) (by omega)]
    have w6 : IntKind.u64.wrap (256 * part s (i / 8) (i % 8) + B s i) = 256 * part s (i / 8) (i % 8) + B s i := wU (by omega) (by omega)
    have c1 : (i : Int) < 8 * (out.length : Int) := by omega
    have c2 : ((i / 8 : Nat) : Int) < (out.length : Int) := by omega
    simp only [m_ticketlineref14_Pack_l0, m_ticketlineref14_Pack_l0_b, w1, w2, w3, c1, c2, decide_true, if_true, Int.natCast_nonneg, rd_G, hg, w4, w5, w6, Int.toNat_natCast]
    by_cases hc : (i : Int) < (s.size : Int)
    · simp only [hc, decide_true, if_true, hset, IH]
    · have hz : B s i = 0 := B_out (by omega)
      rw [hz, Int.add_zero] at hset w6
      simp only [hc, decide_false, Bool.false_eq_true, if_false, Int.add_zero, w4, hset, IH]

theorem ref_Pack {s : ByteArray} (hs : s.size ≤ 100000) : m_ticketlineref14_Pack s = some (packS s) := by
  unfold m_ticketlineref14_Pack m_ticketlineref14_Pack_a
  have hW := W_le (n := (s.size : Int)) (by omega)
  have h0 := W_nonneg (s.size : Int)
  rw [ref14_Words (by omega) (by omega)]
  have hf : fits (W s.size).toNat 8 := by unfold fits; omega
  have := refPack_l0 hs (8 * (W s.size).toNat) FUEL FUEL 0 (by omega) (by have := FUEL_big; omega)
  have hr : ((List.range (W s.size).toNat).map fun j => part s j (min 8 (0 - 8 * j))) = List.replicate (W s.size).toNat 0 := by
    refine List.ext_getElem (by simp) fun j h1 h2 => ?_
    rw [List.getElem_map, List.getElem_range, List.getElem_replicate, show min 8 (0 - 8 * j) = 0 by omega]; rfl
  rw [hr] at this
  simp only [Option.bind_some, h0, Int.le_refl, if_true, hf]
  exact this

theorem splice_get {α : Type} (xs ys : List α) {off : Int} (h0 : 0 ≤ off) (h : off.toNat + ys.length ≤ xs.length) (i : Nat) : (splice xs off ys)[i]? = if i < off.toNat then xs[i]? else if i < off.toNat + ys.length then ys[i - off.toNat]? else xs[i]? := by
  unfold splice
  have hl : (xs.take off.toNat).length = off.toNat := by simp; omega
  by_cases h1 : i < off.toNat
  · rw [if_pos h1, List.append_assoc, List.getElem?_append_left (by omega), List.getElem?_take, if_pos h1]
  · rw [if_neg h1]
    by_cases h2 : i < off.toNat + ys.length
    · rw [if_pos h2, List.append_assoc, List.getElem?_append_right (by omega), hl, List.getElem?_append_left (by omega)]
    · rw [if_neg h2, List.getElem?_append_right (by simp [hl]; omega), List.getElem?_drop]
      congr 1; simp [hl]; omega
theorem splice_length {α : Type} (xs ys : List α) {off : Int} (h0 : 0 ≤ off) (h : off.toNat + ys.length ≤ xs.length) : (splice xs off ys).length = xs.length := by
  unfold splice; simp; omega
theorem G_set {p : List Int} {i : Nat} {x : Int} (h : i < p.length) (j : Int) (hj : 0 ≤ j) : G (p.set i x) j = if j = i then x else G p j := by
  unfold G
  simp only [List.getD_eq_getElem?_getD, List.getElem?_set]
  by_cases c : j = i
  · rw [if_pos c, if_pos (by omega), if_pos h]; rfl
  · rw [if_neg c, if_neg (by omega)]

theorem put_l0 (at' : Int) (h0 : 0 ≤ at') (l : List Int) : ∀ (m n N i : Nat) (p : List Int), i + m = l.length → m < n → p.length = 128 → at' + l.length ≤ 128 →
    m_ticketlineref14_put_l0 N n at' l i p = some (splice p (at' + i) (l.drop i)) := by
  intro m
  induction m with
  | zero =>
    intro n N i p hm hn hp ha
    obtain ⟨n, rfl⟩ : ∃ q, n = q + 1 := ⟨n - 1, by omega⟩
    obtain rfl : i = l.length := by omega
    simp [m_ticketlineref14_put_l0, m_ticketlineref14_put_l0_b, splice]
  | succ m ih =>
    intro n N i p hm hn hp ha
    obtain ⟨n, rfl⟩ : ∃ q, n = q + 1 := ⟨n - 1, by omega⟩
    have hi : i < l.length := by omega
    have IH := ih n N (i + 1) (p.set (at' + i).toNat (G l i)) (by omega) (by omega) (by simpa using hp) ha
    have w2 : IntKind.i64.wrap ((i : Int) + 1) = ((i + 1 : Nat) : Int) := by rw [wI (by omega) (by omega)]; omega
    have w3 : IntKind.i64.wrap (at' + (i : Int)) = at' + i := wI (by omega) (by omega)
    simp only [m_ticketlineref14_put_l0, m_ticketlineref14_put_l0_b, rd_G, w2, w3, show (i : Int) < (l.length : Int) by omega, decide_true, if_true, Int.natCast_nonneg, show (0 : Int) ≤ at' + i by omega, show at' + (i : Int) < 128 by omega, IH]
    rw [G_get hi, List.drop_eq_getElem_cons hi]
    congr 1
    refine List.ext_getElem? fun j => ?_
    rw [splice_get _ _ (by omega) (by simp; omega), splice_get _ _ (by omega) (by simp; omega)]
    simp only [List.length_cons, List.length_drop]
    by_cases c1 : j < (at' + i).toNat
    · rw [if_pos (show j < (at' + ((i + 1 : Nat) : Int)).toNat by omega), if_pos c1, List.getElem?_set_ne (by omega)]
    · by_cases c2 : j = (at' + i).toNat
      · subst c2
        rw [if_pos (show (at' + (i : Int)).toNat < (at' + ((i + 1 : Nat) : Int)).toNat by omega), if_neg (show ¬ (at' + (i : Int)).toNat < (at' + (i : Int)).toNat by omega), if_pos (show (at' + (i : Int)).toNat < (at' + (i : Int)).toNat + (l.length - (i + 1) + 1) by omega), List.getElem?_set_self (by omega), Nat.sub_self]; rfl
      · rw [if_neg (show ¬ j < (at' + ((i + 1 : Nat) : Int)).toNat by omega), if_neg c1]
        by_cases c3 : j < (at' + i).toNat + (l.length - (i + 1) + 1)
        · rw [if_pos (show j < (at' + ((i + 1 : Nat) : Int)).toNat + (l.length - (i + 1)) by omega), if_pos c3, show j - (at' + (i : Int)).toNat = (j - (at' + ((i + 1 : Nat) : Int)).toNat) + 1 by omega, List.getElem?_cons_succ]
        · rw [if_neg (show ¬ j < (at' + ((i + 1 : Nat) : Int)).toNat + (l.length - (i + 1)) by omega), if_neg c3, List.getElem?_set_ne (by omega)]
theorem ref_put {p l : List Int} (hp : p.length = 128) {at' : Int} (h0 : 0 ≤ at') (h : at' + l.length ≤ 128) : m_ticketlineref14_put p at' l = some (splice p at' l) := by
  unfold m_ticketlineref14_put m_ticketlineref14_put_a
  have := put_l0 at' h0 l l.length FUEL FUEL 0 p (by omega) (by have := FUEL_big; omega) hp h
  simpa using this

/-- the empty page -/
def emptyS (level : Int) (low high : ByteArray) : List Int :=
  splice (splice (((((List.replicate 128 0).set 8 (1 + level)).set 11 128).set 12 low.size).set 16 high.size) 13 (packS low)) 17 (packS high)
theorem packS_len3 {s : ByteArray} (h : s.size ≤ 24) : (packS s).length ≤ 3 := by
  have := W_le (n := (s.size : Int)) (by omega)
  rw [packS_length]; omega
theorem ref_Empty {level : Int} {low high : ByteArray} (h0 : -1 ≤ level) (h1 : level ≤ 1000) (hl : low.size ≤ 24) (hh : high.size ≤ 24) : m_ticketlineref14_Empty level low high = some (emptyS level low high) := by
  unfold m_ticketlineref14_Empty emptyS
  have p1 := packS_len3 hl
  have p2 := packS_len3 hh
  have w1 : IntKind.u64.wrap (IntKind.i64.wrap (1 + level)) = 1 + level := by rw [wI (by omega) (by omega), wU (by omega) (by omega)]
  have w2 : IntKind.u64.wrap (low.size : Int) = low.size := wU (by omega) (by omega)
  have w3 : IntKind.u64.wrap (high.size : Int) = high.size := wU (by omega) (by omega)
  rw [ref_Pack (by omega), ref_Pack (by omega), w1, w2, w3]
  simp only [Option.bind_some]
  rw [ref_put (by simp) (by omega) (by omega)]
  simp only [Option.bind_some]
  rw [ref_put (by rw [splice_length _ _ (by omega) (by simp; omega)]; simp) (by omega) (by omega)]
  rfl
end Go.Ev.L

/- The page of a plan; law 14's pages and swaps. -/
set_option linter.unusedVariables false
set_option linter.unusedSimpArgs false
namespace Go.Ev.L
open Go Go.Ev Go.Ev.M

abbrev Sp := Int × (Int × Unit)
def GS (l : List Sp) (i : Int) : Sp := l.getD i.toNat (0, (0, ()))
def U8 (l : List Int) : Prop := ∀ x, x ∈ l → 0 ≤ x ∧ x < 256
theorem U8.G {l : List Int} (h : U8 l) (i : Int) : 0 ≤ G l i ∧ G l i < 256 := by
  unfold L.G
  rw [List.getD_eq_getElem?_getD]
  cases e : l[i.toNat]? with
  | none => simp
  | some x => exact h x (List.mem_of_getElem? e)
def SpOK (l : List Sp) : Prop := ∀ x, x ∈ l → 0 ≤ x.1 ∧ x.1 < 256 ∧ 0 ≤ x.2.1 ∧ x.2.1 < 18446744073709551616
theorem SpOK.G {l : List Sp} (h : SpOK l) (i : Int) : 0 ≤ (GS l i).1 ∧ (GS l i).1 < 256 ∧ 0 ≤ (GS l i).2.1 ∧ (GS l i).2.1 < 18446744073709551616 := by
  unfold GS
  rw [List.getD_eq_getElem?_getD]
  cases e : l[i.toNat]? with
  | none => simp
  | some x => exact h x (List.mem_of_getElem? e)
/-- a page, and whether it is the plan's -/
def PRes (l : List Pr) (r : Option (List Int × Bool)) : Prop := ∃ p b, r = some (p, b) ∧ PageOK p ∧ (b = true → l.length ≤ 60 ∧ ∀ x, x ∈ l → x.1.size ≤ 60 ∧ x.2.1.size ≤ 60)
theorem PRes.zero (l : List Pr) : PRes l (some (List.replicate 128 0, false)) := ⟨_, _, rfl, page_zero, fun h => by cases h⟩

theorem PageOK.len {p : List Int} (h : PageOK p) : p.length = 128 := h.1

end Go.Ev.L

/- The order of strings; law 14's made pages and swaps. -/
set_option linter.unusedVariables false
set_option linter.unusedSimpArgs false
namespace Go.Ev.L
open Go Go.Ev Go.Ev.M
open Go.Lib (compareBytes cmp_eq)

end Go.Ev.L

/- Unpacking inverts packing. -/
set_option linter.unusedVariables false
set_option linter.unusedSimpArgs false
namespace Go.Ev.L
open Go Go.Ev Go.Ev.M

end Go.Ev.L
