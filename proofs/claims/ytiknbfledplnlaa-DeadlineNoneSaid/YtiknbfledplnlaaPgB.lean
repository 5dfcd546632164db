/- Words and bytes: what packing and unpacking compute. -/
import Derived.Test.YtiknbfledplnlaaPgA
import Derived.Test.YtiknbfledplnlaaM14
import Derived.KernelRfl
import Derived.Lib.Bytealg
set_option linter.unusedVariables false
set_option linter.unusedSimpArgs false
namespace Go.Ev.L
open Go Go.Ev Go.Ev.M

def G (p : List Int) (i : Int) : Int := p.getD i.toNat 0
/-- how many words some bytes have -/
def W (n : Int) : Int := if n ≤ 0 then 0 else (n + 7) / 8
/-- the bytes of a word, the highest first -/
def w8 (w : Int) : List Int := [w / 72057594037927936 % 256, w / 281474976710656 % 256, w / 1099511627776 % 256, w / 4294967296 % 256, w / 16777216 % 256, w / 65536 % 256, w / 256 % 256, w % 256]
/-- words of 64 bits -/
def U64 (l : List Int) : Prop := ∀ x, x ∈ l → 0 ≤ x ∧ x < 18446744073709551616

theorem U64.G {l : List Int} (h : U64 l) (i : Int) : 0 ≤ G l i ∧ G l i < 18446744073709551616 := by
  unfold L.G
  rw [List.getD_eq_getElem?_getD]
  cases e : l[i.toNat]? with
  | none => simp
  | some x => exact h x (List.mem_of_getElem? e)

end Go.Ev.L

/- The reference's text of words. -/
set_option linter.unusedVariables false
set_option linter.unusedSimpArgs false
namespace Go.Ev.L
open Go Go.Ev Go.Ev.M

end Go.Ev.L

/- A page's fences, head and slots: what the program computes. -/
set_option linter.unusedVariables false
set_option linter.unusedSimpArgs false
namespace Go.Ev.L
open Go Go.Ev Go.Ev.M

/-- 128 words -/
def PageOK (p : List Int) : Prop := p.length = 128 ∧ U64 p

theorem U64.win {l : List Int} (h : U64 l) (a n : Int) : U64 (win l a n) := fun x hx => h x (List.mem_of_mem_drop (List.mem_of_mem_take hx))
def atS (w : Int) : Int := w / 65536
def keyS (w : Int) : Int := w / 256 % 256
def valS (w : Int) : Int := w % 256
def midS (w : Int) : Int := atS w + W (keyS w)
def endS (w : Int) : Int := midS w + W (valS w)

/-- the word of a slot -/
def sw (p : List Int) (i : Int) : Int := G p (20 + i)
end Go.Ev.L

/- The slots of a page: what the program computes. -/
set_option linter.unusedVariables false
set_option linter.unusedSimpArgs false
namespace Go.Ev.L
open Go Go.Ev Go.Ev.M

structure Sized (p : List Int) (i : Int) : Prop where
  at0 : 0 ≤ atS (sw p i)
  at1 : atS (sw p i) < 128
  key0 : 0 ≤ keyS (sw p i)
  key : keyS (sw p i) ≤ 24
  val0 : 0 ≤ valS (sw p i)
  val : valS (sw p i) ≤ 40
  end1 : endS (sw p i) ≤ 128
  some : atS (sw p i) < endS (sw p i)
  mid0 : atS (sw p i) ≤ midS (sw p i)
  mid1 : midS (sw p i) ≤ endS (sw p i)
  inner : G p 8 ≠ 1 → valS (sw p i) = 8
  low : G p 11 ≤ atS (sw p i)
  mid2 : G p 8 ≠ 1 → midS (sw p i) < 128

def setT (t : List Bool) (w : Nat) : Nat → List Bool
  | 0 => t
  | n + 1 => setT (t.set w true) (w + 1) n
theorem setT_length : ∀ (n w : Nat) (t : List Bool), (setT t w n).length = t.length := by
  intro n
  induction n with
  | zero => intro w t; rfl
  | succ n ih => intro w t; simp only [setT, ih, List.length_set]
theorem setT_getD : ∀ (n w : Nat) (t : List Bool) (x : Nat), x < t.length → (setT t w n).getD x false = (t.getD x false || (decide (w ≤ x) && decide (x < w + n))) := by
  intro n
  induction n with
  | zero =>
    intro w t x hx
    have : (decide (w ≤ x) && decide (x < w + 0)) = false := by
      rw [Bool.eq_false_iff]; simp only [ne_eq, Bool.and_eq_true, decide_eq_true_eq]; omega
    simp only [setT, this, Bool.or_false]
  | succ n ih =>
    intro w t x hx
    simp only [setT]
    rw [ih (w + 1) _ x (by simpa using hx)]
    by_cases e : x = w
    · subst e
      have h1 : (t.set x true).getD x false = true := by
        rw [List.getD_eq_getElem?_getD, List.getElem?_set_self hx]; rfl
      rw [h1]
      simp
    · have h1 : (t.set w true).getD x false = t.getD x false := by
        simp only [List.getD_eq_getElem?_getD, List.getElem?_set_ne (show w ≠ x from fun h => e h.symm)]
      have h2 : (decide (w + 1 ≤ x) && decide (x < w + 1 + n)) = (decide (w ≤ x) && decide (x < w + (n + 1))) := by
        rw [Bool.eq_iff_iff]; simp only [Bool.and_eq_true, decide_eq_true_eq]; omega
      rw [h1, h2]

/-- the words of the first slots are taken -/
def TK (p : List Int) (i : Nat) (t : List Bool) : Prop := t.length = 128 ∧ ∀ x : Nat, x < 128 → (t.getD x false = true ↔ ∃ j : Nat, j < i ∧ atS (sw p j) ≤ x ∧ (x : Int) < endS (sw p j))

theorem TK.zero (p : List Int) : TK p 0 (List.replicate 128 false) := by
  refine ⟨by simp, fun x hx => ?_⟩
  have : (List.replicate 128 false).getD x false = false := by
    rw [List.getD_eq_getElem?_getD, List.getElem?_replicate]; split <;> rfl
  rw [this]
  simp
theorem TK.succ {p : List Int} {i : Nat} {t : List Bool} (h : TK p i t) (hs : Sized p i) : TK p (i + 1) (setT t (atS (sw p i)).toNat (endS (sw p i) - atS (sw p i)).toNat) := by
  have h1 := hs.at0
  have h2 := hs.some
  refine ⟨by rw [setT_length]; exact h.1, fun x hx => ?_⟩
  rw [setT_getD _ _ _ _ (by rw [h.1]; exact hx), Bool.or_eq_true, h.2 x hx, Bool.and_eq_true, decide_eq_true_eq, decide_eq_true_eq]
  constructor
  · rintro (⟨j, g1, g2, g3⟩ | ⟨g1, g2⟩)
    · exact ⟨j, by omega, g2, g3⟩
    · exact ⟨i, by omega, by omega, by omega⟩
  · rintro ⟨j, g1, g2, g3⟩
    by_cases e : j = i
    · subst e; exact .inr ⟨by omega, by omega⟩
    · exact .inl ⟨j, by omega, g2, g3⟩

end Go.Ev.L

/- The slots of a page: what the reference computes. -/
set_option linter.unusedVariables false
set_option linter.unusedSimpArgs false
namespace Go.Ev.L
open Go Go.Ev Go.Ev.M

end Go.Ev.L

/- What the other functions of a page answer; that the program's answers are the reference's. -/
set_option linter.unusedVariables false
set_option linter.unusedSimpArgs false
namespace Go.Ev.L
open Go Go.Ev Go.Ev.M

abbrev Pr := ByteArray × (ByteArray × Unit)
theorem G_get {l : List Int} {i : Nat} (h : i < l.length) : G l (i : Int) = l[i] := by
  unfold G; rw [show (i : Int).toNat = i by omega, List.getD_eq_getElem?_getD, List.getElem?_eq_getElem h]; rfl

end Go.Ev.L

/- Law 14: the answers for any page are the reference's. -/
set_option linter.unusedVariables false
set_option linter.unusedSimpArgs false
namespace Go.Ev.L
open Go Go.Ev Go.Ev.M

theorem PageOK.set {p : List Int} (h : PageOK p) (i : Nat) {x : Int} (h0 : 0 ≤ x) (h1 : x < 18446744073709551616) : PageOK (p.set i x) := by
  refine ⟨by simpa using h.1, fun y hy => ?_⟩
  rcases List.mem_or_eq_of_mem_set hy with hy | rfl
  · exact h.2 y hy
  · exact ⟨h0, h1⟩
theorem page_zero : PageOK (List.replicate 128 0) := ⟨by simp, fun x hx => by rw [List.mem_replicate] at hx; omega⟩

end Go.Ev.L

/- Packing; empty pages. -/
set_option linter.unusedVariables false
set_option linter.unusedSimpArgs false
namespace Go.Ev.L
open Go Go.Ev Go.Ev.M

/-- a byte of a string, 0 behind its end -/
def B (s : ByteArray) (j : Nat) : Int := ((s.data.toList.getD j 0).toNat : Int)
/-- the first k bytes of a word -/
def part (s : ByteArray) (j : Nat) : Nat → Int
  | 0 => 0
  | k + 1 => 256 * part s j k + B s (8 * j + k)
theorem splice_length {α : Type} (xs ys : List α) {off : Int} (h0 : 0 ≤ off) (h : off.toNat + ys.length ≤ xs.length) : (splice xs off ys).length = xs.length := by
  unfold splice; simp; omega
theorem G_set {p : List Int} {i : Nat} {x : Int} (h : i < p.length) (j : Int) (hj : 0 ≤ j) : G (p.set i x) j = if j = i then x else G p j := by
  unfold G
  simp only [List.getD_eq_getElem?_getD, List.getElem?_set]
  by_cases c : j = i
  · rw [if_pos c, if_pos (by omega), if_pos h]; rfl
  · rw [if_neg c, if_neg (by omega)]

end Go.Ev.L

/- The page of a plan; law 14's pages and swaps. -/
set_option linter.unusedVariables false
set_option linter.unusedSimpArgs false
namespace Go.Ev.L
open Go Go.Ev Go.Ev.M

abbrev Sp := Int × (Int × Unit)
def GS (l : List Sp) (i : Int) : Sp := l.getD i.toNat (0, (0, ()))
def U8 (l : List Int) : Prop := ∀ x, x ∈ l → 0 ≤ x ∧ x < 256
theorem U8.G {l : List Int} (h : U8 l) (i : Int) : 0 ≤ G l i ∧ G l i < 256 := by
  unfold L.G
  rw [List.getD_eq_getElem?_getD]
  cases e : l[i.toNat]? with
  | none => simp
  | some x => exact h x (List.mem_of_getElem? e)
def SpOK (l : List Sp) : Prop := ∀ x, x ∈ l → 0 ≤ x.1 ∧ x.1 < 256 ∧ 0 ≤ x.2.1 ∧ x.2.1 < 18446744073709551616
theorem SpOK.G {l : List Sp} (h : SpOK l) (i : Int) : 0 ≤ (GS l i).1 ∧ (GS l i).1 < 256 ∧ 0 ≤ (GS l i).2.1 ∧ (GS l i).2.1 < 18446744073709551616 := by
  unfold GS
  rw [List.getD_eq_getElem?_getD]
  cases e : l[i.toNat]? with
  | none => simp
  | some x => exact h x (List.mem_of_getElem? e)
/-- a page, and whether it is the plan's -/
def PRes (l : List Pr) (r : Option (List Int × Bool)) : Prop := ∃ p b, r = some (p, b) ∧ PageOK p ∧ (b = true → l.length ≤ 60 ∧ ∀ x, x ∈ l → x.1.size ≤ 60 ∧ x.2.1.size ≤ 60)
theorem PRes.zero (l : List Pr) : PRes l (some (List.replicate 128 0, false)) := ⟨_, _, rfl, page_zero, fun h => by cases h⟩

theorem PageOK.len {p : List Int} (h : PageOK p) : p.length = 128 := h.1

end Go.Ev.L

/- The order of strings; law 14's made pages and swaps. -/
set_option linter.unusedVariables false
set_option linter.unusedSimpArgs false
namespace Go.Ev.L
open Go Go.Ev Go.Ev.M
open Go.Lib (compareBytes cmp_eq)

end Go.Ev.L

/- Unpacking inverts packing. -/
set_option linter.unusedVariables false
set_option linter.unusedSimpArgs false
namespace Go.Ev.L
open Go Go.Ev Go.Ev.M

end Go.Ev.L
