/- Words and bytes: what packing and unpacking compute. -/
import Derived.Test.YtmageoiakgcgmaaPgA
import Derived.Test.YtmageoiakgcgmaaM14
import Derived.KernelRfl
import Derived.Lib.Bytealg
set_option linter.unusedVariables false
set_option linter.unusedSimpArgs false
namespace Go.Ev.L
open Go Go.Ev Go.Ev.M

def G (p : List Int) (i : Int) : Int := p.getD i.toNat 0
theorem rd_G (k : IntKind) (p : List Int) (i : Int) : rd (.int k) p i = G p i := rfl

/-- how many words some bytes have -/
def W (n : Int) : Int := if n ≤ 0 then 0 else (n + 7) / 8
theorem keys_Words {n : Int} (h : n < 9223372036854775808) : m_keys_Words n = some (W n) := by
  unfold m_keys_Words W
  by_cases h0 : n ≤ 0
  · simp [h0]
  · simp only [h0, decide_false, Bool.false_eq_true, if_false]
    rw [wI (x := n - 1) (by omega) (by omega), td8 (by omega), wI (x := (n - 1) / 8) (by omega) (by omega), wI (by omega) (by omega)]
    congr 1; omega
theorem W_nonneg (n : Int) : 0 ≤ W n := by unfold W; split <;> omega
theorem W_le {n : Int} (h : 0 ≤ n) : 8 * W n ≤ n + 7 ∧ n ≤ 8 * W n := by unfold W; split <;> omega

/-- the bytes of a word, the highest first -/
def w8 (w : Int) : List Int := [w / 72057594037927936 % 256, w / 281474976710656 % 256, w / 1099511627776 % 256, w / 4294967296 % 256, w / 16777216 % 256, w / 65536 % 256, w / 256 % 256, w % 256]
theorem w8_length (w : Int) : (w8 w).length = 8 := rfl
def b8 (l : List Int) : List Int := l.flatMap w8
theorem b8_length (l : List Int) : (b8 l).length = 8 * l.length := by
  induction l with
  | nil => rfl
  | cons w l ih => simp only [b8, List.flatMap_cons, List.length_append, w8_length, List.length_cons] at *; omega
theorem b8_append (l m : List Int) : b8 (l ++ m) = b8 l ++ b8 m := by simp [b8]
theorem b8_one (w : Int) : b8 [w] = w8 w := by simp [b8]

/-- words of 64 bits -/
def U64 (l : List Int) : Prop := ∀ x, x ∈ l → 0 ≤ x ∧ x < 18446744073709551616

theorem U64.G {l : List Int} (h : U64 l) (i : Int) : 0 ≤ G l i ∧ G l i < 18446744073709551616 := by
  unfold L.G
  rw [List.getD_eq_getElem?_getD]
  cases e : l[i.toNat]? with
  | none => simp
  | some x => exact h x (List.mem_of_getElem? e)

theorem shr_u64 {w : Int} (h : 0 ≤ w) (y : Int) (m : Int) (hm : m = 2 ^ (min y.toNat 64)) (hp : 0 < m) : shrI .u64 w y = w / m := by
  unfold shrI
  rw [show IntKind.bits .u64 = 64 from rfl, ← hm]
  exact Int.fdiv_eq_ediv_of_nonneg _ (by omega)

/-- all zero from n on -/
def zeroFrom (b : List Int) (n : Nat) : Bool := (b.drop n).all (· == 0)

theorem unpack_l2 (N a b c o : Int) : ∀ (n : Nat) (M i : Nat) (out : List Int), 0 ≤ a → 0 ≤ b → (b + c : Int) = out.length → 0 ≤ c → (i : Int) ≤ c → c < i + n → c < 1000000 → a ≤ out.length →
    m_keys_Unpack_l2 M n a b c c i out = if zeroFrom out (b.toNat + i) = true then some (strOf (out.take a.toNat), 0) else some (⟨#[]⟩, 12) := by
  intro n
  induction n with
  | zero => intro M i out h1 h2 h3 h4 h5 h6; omega
  | succ n ih =>
    intro M i out h1 h2 h3 h4 h5 h6 h7 h8
    simp only [m_keys_Unpack_l2, m_keys_Unpack_l2_b, rd_G]
    by_cases hi : (i : Int) < c
    · have hlt : b.toNat + i < out.length := by omega
      have hd : out.drop (b.toNat + i) = out[b.toNat + i] :: out.drop (b.toNat + i + 1) := List.drop_eq_getElem_cons hlt
      have hg : G out (b + (i : Int)) = out[b.toNat + i] := by
        unfold G
        rw [show (b + (i : Int)).toNat = b.toNat + i by omega, List.getD_eq_getElem?_getD, List.getElem?_eq_getElem hlt]; rfl
      have hz : zeroFrom out (b.toNat + i) = (out[b.toNat + i] == 0 && zeroFrom out (b.toNat + (i + 1))) := by
        unfold zeroFrom; rw [hd]; simp [Nat.add_assoc]
      simp (disch := omega) only [hg, hz, wI]
      have := ih M (i + 1) out h1 h2 h3 h4 (by omega) (by omega) h7 h8
      simp only [hi, decide_true, if_true, Int.natCast_nonneg]
      by_cases hx : out[b.toNat + i] = 0
      · simp only [hx, bne_self_eq_false, Bool.false_eq_true, if_false, beq_self_eq_true, Bool.true_and]
        exact_mod_cast this
      · simp [hx]
    · have hic : (i : Int) = c := by omega
      have hz : zeroFrom out (b.toNat + i) = true := by
        unfold zeroFrom; rw [List.drop_eq_nil_of_le (by omega)]; rfl
      simp only [hi, decide_false, Bool.false_eq_true, if_false, hz, if_true, h1, h8]
      simp [win]

theorem unpack_l1 (N n : Nat) (s0 : (Int → (List Int) → Int → Int → (List Int) → Option (ByteArray × Int))) (a w len i : Int) (l out : List Int) (h0 : 0 ≤ w) (hn : 9 ≤ n) (ho : out.length ≤ 100000) :
    m_keys_Unpack_l1 N s0 n a w 7 l len i out = s0 a l len (IntKind.i64.wrap (i + 1)) (out ++ w8 w) := by
  obtain ⟨n, rfl⟩ : ∃ m, n = m + 9 := ⟨n - 9, by omega⟩
  have step : ∀ (k : Nat) (n : Nat) (out : List Int) (m : Int), k ≤ 7 → out.length ≤ 200000 → m = 2 ^ (8 * k) → m_keys_Unpack_l1 N s0 (n + 1) a w (k : Int) l len i out = m_keys_Unpack_l1 N s0 n a w ((k : Int) - 1) l len i (out ++ [w / m % 256]) := by
    intro k n out m hk ho hm
    have hp : 0 < m := by rw [hm]; exact Int.pow_pos (by omega)
    simp only [m_keys_Unpack_l1, m_keys_Unpack_l1_b]
    rw [wI (x := 8 * (k : Int)) (by omega) (by omega), wI (x := (k : Int) - 1) (by omega) (by omega)]
    have hs : shrI .u64 w (8 * (k : Int)) = w / m := shr_u64 h0 _ _ (by rw [hm, show (8 * (k : Int)).toNat = 8 * k by omega, Nat.min_eq_left (by omega)]) hp
    have hf : fits (List.length out + 1) 1 := by unfold fits; omega
    simp [hs, wBmod, hf, show (0 : Int) ≤ 8 * (k : Int) by omega]
  have hl : ∀ (x : Int) (o : List Int), (o ++ [x]).length = o.length + 1 := by simp
  have e7 := step 7 (n + 8) out 72057594037927936 (by omega) (by omega) (by decide)
  have e6 := step 6 (n + 7) (out ++ [w / 72057594037927936 % 256]) 281474976710656 (by omega) (by simp only [hl]; omega) (by decide)
  have e5 := step 5 (n + 6) (out ++ [w / 72057594037927936 % 256] ++ [w / 281474976710656 % 256]) 1099511627776 (by omega) (by simp only [hl]; omega) (by decide)
  have e4 := step 4 (n + 5) (out ++ [w / 72057594037927936 % 256] ++ [w / 281474976710656 % 256] ++ [w / 1099511627776 % 256]) 4294967296 (by omega) (by simp only [hl]; omega) (by decide)
  have e3 := step 3 (n + 4) (out ++ [w / 72057594037927936 % 256] ++ [w / 281474976710656 % 256] ++ [w / 1099511627776 % 256] ++ [w / 4294967296 % 256]) 16777216 (by omega) (by simp only [hl]; omega) (by decide)
  have e2 := step 2 (n + 3) (out ++ [w / 72057594037927936 % 256] ++ [w / 281474976710656 % 256] ++ [w / 1099511627776 % 256] ++ [w / 4294967296 % 256] ++ [w / 16777216 % 256]) 65536 (by omega) (by simp only [hl]; omega) (by decide)
  have e1 := step 1 (n + 2) (out ++ [w / 72057594037927936 % 256] ++ [w / 281474976710656 % 256] ++ [w / 1099511627776 % 256] ++ [w / 4294967296 % 256] ++ [w / 16777216 % 256] ++ [w / 65536 % 256]) 256 (by omega) (by simp only [hl]; omega) (by decide)
  have e0 := step 0 (n + 1) (out ++ [w / 72057594037927936 % 256] ++ [w / 281474976710656 % 256] ++ [w / 1099511627776 % 256] ++ [w / 4294967296 % 256] ++ [w / 16777216 % 256] ++ [w / 65536 % 256] ++ [w / 256 % 256]) 1 (by omega) (by simp only [hl]; omega) (by decide)
  refine e7.trans (e6.trans (e5.trans (e4.trans (e3.trans (e2.trans (e1.trans (e0.trans ?_)))))))
  simp [m_keys_Unpack_l1, m_keys_Unpack_l1_b, w8]

/-- the string of some bytes of words, if all other bytes are 0 -/
def U (l : List Int) (n : Int) : Option ByteArray := if zeroFrom (b8 l) n.toNat = true then some (strOf ((b8 l).take n.toNat)) else none

theorem unpack_l0 (a : Int) (l : List Int) (hl : U64 l) (hlen : l.length ≤ 10000) (h0 : 0 ≤ a) (ha : a ≤ 8 * l.length) : ∀ (n N i : Nat) (out : List Int), 100000 < N → i ≤ l.length → l.length < i + n → out = b8 (l.take i) →
    m_keys_Unpack_l0 N n a l l.length i out = match U l a with | some s => some (s, 0) | none => some (⟨#[]⟩, 12) := by
  intro n
  induction n with
  | zero => intro N i out h1 h2 h3; omega
  | succ n ih =>
    intro N i out hN h2 h3 ho
    have hol : out.length = 8 * i := by rw [ho, b8_length, List.length_take]; omega
    simp only [m_keys_Unpack_l0, m_keys_Unpack_l0_b, rd_G]
    by_cases hi : i < l.length
    · have hg : G l (i : Int) = l[i] := by
        unfold G; rw [show (i : Int).toNat = i by omega, List.getD_eq_getElem?_getD, List.getElem?_eq_getElem hi]; rfl
      have hw := hl.G (i : Int)
      rw [unpack_l1 N N _ a _ _ _ l out hw.1 (by omega) (by omega), wI (by omega) (by omega)]
      have := ih N (i + 1) (out ++ w8 (G l i)) hN (by omega) (by omega) (by rw [ho, hg, List.take_succ_eq_append_getElem hi, b8_append, b8_one])
      simp only [show (i : Int) < l.length by omega, decide_true, if_true, Int.natCast_nonneg]
      exact_mod_cast this
    · have hil : i = l.length := by omega
      subst hil
      have ho' : out = b8 l := by rw [ho, List.take_length]
      have hlt : (0 : Int) ≤ out.length := by omega
      have := unpack_l2 0 a a (out.length - a) 0 N N 0 out h0 h0 (by omega) (by omega) (by omega) (by omega) (by omega) (by omega)
      simp only [Int.lt_irrefl, decide_false, Bool.false_eq_true, if_false, hlt, if_true, Int.le_refl, h0, show a ≤ (out.length : Int) by omega]
      refine this.trans ?_
      unfold U
      rw [ho', Nat.add_zero]
      split <;> simp_all

theorem FUEL_big : 1000000 < FUEL := by unfold FUEL; omega

/-- the string of so many bytes of words, or the error -/
theorem keys_Unpack (l : List Int) (n : Int) (hl : U64 l) (hlen : l.length ≤ 10000) : m_keys_Unpack l n = some (
    (if n < 0 then (⟨#[]⟩, 2) else if n > 40 then (⟨#[]⟩, 5) else if (l.length : Int) ≠ W n then (⟨#[]⟩, 12) else match U l n with | some s => (s, 0) | none => (⟨#[]⟩, 12)) : ByteArray × Int) := by
  unfold m_keys_Unpack m_keys_Unpack_a
  by_cases h1 : n < 0
  · simp [h1]
  by_cases h2 : n > 40
  · simp [h1, h2]
  simp only [h1, h2, decide_false, Bool.false_eq_true, if_false]
  rw [keys_Words (by omega)]
  by_cases h3 : (l.length : Int) = W n
  · have := W_le (n := n) (by omega)
    have h4 := unpack_l0 n l hl hlen (by omega) (by omega) FUEL FUEL 0 [] (by have := FUEL_big; omega) (by omega) (by have := FUEL_big; omega) (by simp [b8])
    simp only [Option.bind_some, h3, bne_self_eq_false, Bool.false_eq_true, if_false, ne_eq, not_true]
    rw [h3] at h4
    refine Eq.trans (by exact_mod_cast h4) ?_
    split <;> simp_all
  · simp [h3]
end Go.Ev.L

/- The reference's text of words. -/
set_option linter.unusedVariables false
set_option linter.unusedSimpArgs false
namespace Go.Ev.L
open Go Go.Ev Go.Ev.M

end Go.Ev.L

/- A page's fences, head and slots: what the program computes. -/
set_option linter.unusedVariables false
set_option linter.unusedSimpArgs false
namespace Go.Ev.L
open Go Go.Ev Go.Ev.M

/-- 128 words -/
def PageOK (p : List Int) : Prop := p.length = 128 ∧ U64 p

theorem U64.win {l : List Int} (h : U64 l) (a n : Int) : U64 (win l a n) := fun x hx => h x (List.mem_of_mem_drop (List.mem_of_mem_take hx))
def atS (w : Int) : Int := w / 65536
def keyS (w : Int) : Int := w / 256 % 256
def valS (w : Int) : Int := w % 256
def midS (w : Int) : Int := atS w + W (keyS w)
def endS (w : Int) : Int := midS w + W (valS w)

/-- the word of a slot -/
def sw (p : List Int) (i : Int) : Int := G p (20 + i)
end Go.Ev.L

/- The slots of a page: what the program computes. -/
set_option linter.unusedVariables false
set_option linter.unusedSimpArgs false
namespace Go.Ev.L
open Go Go.Ev Go.Ev.M

def count (p : List Int) : Nat := (G p 9).toNat
structure Sized (p : List Int) (i : Int) : Prop where
  at0 : 0 ≤ atS (sw p i)
  at1 : atS (sw p i) < 128
  key0 : 0 ≤ keyS (sw p i)
  key : keyS (sw p i) ≤ 24
  val0 : 0 ≤ valS (sw p i)
  val : valS (sw p i) ≤ 40
  end1 : endS (sw p i) ≤ 128
  some : atS (sw p i) < endS (sw p i)
  mid0 : atS (sw p i) ≤ midS (sw p i)
  mid1 : midS (sw p i) ≤ endS (sw p i)
  inner : G p 8 ≠ 1 → valS (sw p i) = 8
  low : G p 11 ≤ atS (sw p i)
  mid2 : G p 8 ≠ 1 → midS (sw p i) < 128

def setT (t : List Bool) (w : Nat) : Nat → List Bool
  | 0 => t
  | n + 1 => setT (t.set w true) (w + 1) n
theorem setT_length : ∀ (n w : Nat) (t : List Bool), (setT t w n).length = t.length := by
  intro n
  induction n with
  | zero => intro w t; rfl
  | succ n ih => intro w t; simp only [setT, ih, List.length_set]
theorem setT_getD : ∀ (n w : Nat) (t : List Bool) (x : Nat), x < t.length → (setT t w n).getD x false = (t.getD x false || (decide (w ≤ x) && decide (x < w + n))) := by
  intro n
  induction n with
  | zero =>
    intro w t x hx
    have : (decide (w ≤ x) && decide (x < w + 0)) = false := by
      rw [Bool.eq_false_iff]; simp only [ne_eq, Bool.and_eq_true, decide_eq_true_eq]; omega
    simp only [setT, this, Bool.or_false]
  | succ n ih =>
    intro w t x hx
    simp only [setT]
    rw [ih (w + 1) _ x (by simpa using hx)]
    by_cases e : x = w
    · subst e
      have h1 : (t.set x true).getD x false = true := by
        rw [List.getD_eq_getElem?_getD, List.getElem?_set_self hx]; rfl
      rw [h1]
      simp
    · have h1 : (t.set w true).getD x false = t.getD x false := by
        simp only [List.getD_eq_getElem?_getD, List.getElem?_set_ne (show w ≠ x from fun h => e h.symm)]
      have h2 : (decide (w + 1 ≤ x) && decide (x < w + 1 + n)) = (decide (w ≤ x) && decide (x < w + (n + 1))) := by
        rw [Bool.eq_iff_iff]; simp only [Bool.and_eq_true, decide_eq_true_eq]; omega
      rw [h1, h2]

/-- the words of the first slots are taken -/
def TK (p : List Int) (i : Nat) (t : List Bool) : Prop := t.length = 128 ∧ ∀ x : Nat, x < 128 → (t.getD x false = true ↔ ∃ j : Nat, j < i ∧ atS (sw p j) ≤ x ∧ (x : Int) < endS (sw p j))

theorem TK.zero (p : List Int) : TK p 0 (List.replicate 128 false) := by
  refine ⟨by simp, fun x hx => ?_⟩
  have : (List.replicate 128 false).getD x false = false := by
    rw [List.getD_eq_getElem?_getD, List.getElem?_replicate]; split <;> rfl
  rw [this]
  simp
theorem TK.succ {p : List Int} {i : Nat} {t : List Bool} (h : TK p i t) (hs : Sized p i) : TK p (i + 1) (setT t (atS (sw p i)).toNat (endS (sw p i) - atS (sw p i)).toNat) := by
  have h1 := hs.at0
  have h2 := hs.some
  refine ⟨by rw [setT_length]; exact h.1, fun x hx => ?_⟩
  rw [setT_getD _ _ _ _ (by rw [h.1]; exact hx), Bool.or_eq_true, h.2 x hx, Bool.and_eq_true, decide_eq_true_eq, decide_eq_true_eq]
  constructor
  · rintro (⟨j, g1, g2, g3⟩ | ⟨g1, g2⟩)
    · exact ⟨j, by omega, g2, g3⟩
    · exact ⟨i, by omega, by omega, by omega⟩
  · rintro ⟨j, g1, g2, g3⟩
    by_cases e : j = i
    · subst e; exact .inr ⟨by omega, by omega⟩
    · exact .inl ⟨j, by omega, g2, g3⟩

end Go.Ev.L

/- The slots of a page: what the reference computes. -/
set_option linter.unusedVariables false
set_option linter.unusedSimpArgs false
namespace Go.Ev.L
open Go Go.Ev Go.Ev.M

end Go.Ev.L

/- What the other functions of a page answer; that the program's answers are the reference's. -/
set_option linter.unusedVariables false
set_option linter.unusedSimpArgs false
namespace Go.Ev.L
open Go Go.Ev Go.Ev.M

abbrev Pr := ByteArray × (ByteArray × Unit)
theorem strEq_refl (x : ByteArray) : strEq x x = true := by simp [strEq]
theorem G_get {l : List Int} {i : Nat} (h : i < l.length) : G l (i : Int) = l[i] := by
  unfold G; rw [show (i : Int).toNat = i by omega, List.getD_eq_getElem?_getD, List.getElem?_eq_getElem h]; rfl

theorem strOf_size (l : List Int) : (strOf l).size = l.length := by
  show (strOf l).data.size = _
  simp [strOf]
end Go.Ev.L

/- Law 14: the answers for any page are the reference's. -/
set_option linter.unusedVariables false
set_option linter.unusedSimpArgs false
namespace Go.Ev.L
open Go Go.Ev Go.Ev.M

theorem PageOK.set {p : List Int} (h : PageOK p) (i : Nat) {x : Int} (h0 : 0 ≤ x) (h1 : x < 18446744073709551616) : PageOK (p.set i x) := by
  refine ⟨by simpa using h.1, fun y hy => ?_⟩
  rcases List.mem_or_eq_of_mem_set hy with hy | rfl
  · exact h.2 y hy
  · exact ⟨h0, h1⟩
theorem page_zero : PageOK (List.replicate 128 0) := ⟨by simp, fun x hx => by rw [List.mem_replicate] at hx; omega⟩

end Go.Ev.L

/- Packing; empty pages. -/
set_option linter.unusedVariables false
set_option linter.unusedSimpArgs false
namespace Go.Ev.L
open Go Go.Ev Go.Ev.M

/-- a byte of a string, 0 behind its end -/
def B (s : ByteArray) (j : Nat) : Int := ((s.data.toList.getD j 0).toNat : Int)
theorem bt_B (s : ByteArray) (i : Int) : bt s i = B s i.toNat := rfl
theorem B_range (s : ByteArray) (j : Nat) : 0 ≤ B s j ∧ B s j < 256 := by
  have := (s.data.toList.getD j 0).toNat_lt
  unfold B; omega
theorem B_out {s : ByteArray} {j : Nat} (h : s.size ≤ j) : B s j = 0 := by
  have : s.data.toList.length ≤ j := by simpa using h
  unfold B; rw [List.getD_eq_getElem?_getD, List.getElem?_eq_none this]; rfl

/-- the first k bytes of a word -/
def part (s : ByteArray) (j : Nat) : Nat → Int
  | 0 => 0
  | k + 1 => 256 * part s j k + B s (8 * j + k)
theorem part_range (s : ByteArray) (j : Nat) : ∀ k, 0 ≤ part s j k ∧ part s j k < 256 ^ k := by
  intro k
  induction k with
  | zero => simp [part]
  | succ k ih =>
    have hb := B_range s (8 * j + k)
    show 0 ≤ 256 * part s j k + B s (8 * j + k) ∧ 256 * part s j k + B s (8 * j + k) < 256 ^ (k + 1)
    rw [Int.pow_succ]
    omega
theorem part_lt {s : ByteArray} {j k : Nat} (h : k ≤ 7) : 0 ≤ part s j k ∧ part s j k < 72057594037927936 := by
  have h1 := part_range s j k
  have h2 : (256 : Int) ^ k ≤ 256 ^ 7 := by
    rcases (by omega : k = 0 ∨ k = 1 ∨ k = 2 ∨ k = 3 ∨ k = 4 ∨ k = 5 ∨ k = 6 ∨ k = 7) with rfl | rfl | rfl | rfl | rfl | rfl | rfl | rfl <;> decide
  have h3 : (256 : Int) ^ 7 = 72057594037927936 := by decide
  omega
def packS (s : ByteArray) : List Int := (List.range (W s.size).toNat).map fun j => part s j 8
theorem packS_length (s : ByteArray) : (packS s).length = (W s.size).toNat := by simp [packS]
theorem packS_u64 (s : ByteArray) : U64 (packS s) := by
  intro x hx
  obtain ⟨j, _, rfl⟩ := List.mem_map.1 hx
  have := part_range s j 8
  have h3 : (256 : Int) ^ 8 = 18446744073709551616 := by decide
  omega

theorem or_byte {a b : Int} (ha : 0 ≤ a) (ha' : a < 72057594037927936) (hb : 0 ≤ b) (hb' : b < 256) : bor .u64 (256 * a) b = 256 * a + b := by
  obtain ⟨x, rfl⟩ := Int.eq_ofNat_of_zero_le ha
  obtain ⟨y, rfl⟩ := Int.eq_ofNat_of_zero_le hb
  unfold bor
  show IntKind.u64.wrap ((BitVec.ofInt 64 (256 * (x : Int)) ||| BitVec.ofInt 64 (y : Int)).toNat : Int) = _
  rw [BitVec.toNat_or]
  have e1 : (BitVec.ofInt 64 (256 * (x : Int))).toNat = 2 ^ 8 * x := by rw [BitVec.toNat_ofInt]; omega
  have e2 : (BitVec.ofInt 64 (y : Int)).toNat = y := by rw [BitVec.toNat_ofInt]; omega
  rw [e1, e2, ← Nat.two_pow_add_eq_or_of_lt (show y < 2 ^ 8 by omega), wU (by omega) (by omega)]
  omega

theorem pack_l1 {s : ByteArray} (hs : s.size ≤ 40) (s0 : ByteArray → Int → Int → (List Int) → Option ((List Int) × Int)) (c j : Nat) (hj : j ≤ 10) (out : List Int) (ho : out.length ≤ 100) : ∀ (m n N k : Nat), k + m = 8 → m < n →
    m_keys_Pack_l1 N s0 n s j (part s j k) c j k out = s0 s c ((j + 1 : Nat) : Int) (out ++ [part s j 8]) := by
  intro m
  induction m with
  | zero =>
    intro n N k hk hn
    obtain ⟨n, rfl⟩ : ∃ q, n = q + 1 := ⟨n - 1, by omega⟩
    obtain rfl : k = 8 := by omega
    have w2 : IntKind.i64.wrap ((j : Int) + 1) = ((j + 1 : Nat) : Int) := by rw [wI (by omega) (by omega)]; omega
    have hf : fits (List.length out + 1) 8 := by unfold fits; omega
    simp [m_keys_Pack_l1, m_keys_Pack_l1_b, w2, hf]
  | succ m ih =>
    intro n N k hk hn
    obtain ⟨n, rfl⟩ : ∃ q, n = q + 1 := ⟨n - 1, by omega⟩
    have IH := ih n N (k + 1) (by omega) (by omega)
    have hp := part_lt (s := s) (j := j) (k := k) (by omega)
    have hb := B_range s (8 * j + k)
    have w2 : IntKind.i64.wrap ((k : Int) + 1) = ((k + 1 : Nat) : Int) := by rw [wI (by omega) (by omega)]; omega
    have w3 : IntKind.i64.wrap (IntKind.i64.wrap ((j : Int) * 8) + k) = ((8 * j + k : Nat) : Int) := by
      rw [wI (x := (j : Int) * 8) (by omega) (by omega), wI (by omega) (by omega)]; omega
    have w4 : shlI .u64 (part s j k) 8 = 256 * part s j k := by
      show IntKind.u64.wrap (part s j k * 2 ^ (min (8 : Int).toNat 64)) = _
      rw [show (2 : Int) ^ (min (8 : Int).toNat 64) = 256 by decide, wU (by omega) (by omega)]; omega
    have w5 : IntKind.u64.wrap (bt s ((8 * j + k : Nat) : Int)) = B s (8 * j + k) := by rw [bt_B, Int.toNat_natCast, wU (by omega) (by omega)]
    have w6 := or_byte hp.1 hp.2 hb.1 hb.2
    have hpart : part s j (k + 1) = 256 * part s j k + B s (8 * j + k) := rfl
    simp only [m_keys_Pack_l1, m_keys_Pack_l1_b, show (k : Int) < 8 by omega, decide_true, if_true, w2, w3, w4, w5, w6, Int.natCast_nonneg]
    rw [hpart] at IH
    by_cases hc : ((8 * j + k : Nat) : Int) < (s.size : Int)
    · simp only [hc, decide_true, if_true, IH]
    · have hz : B s (8 * j + k) = 0 := B_out (by omega)
      rw [hz, Int.add_zero] at IH
      simp only [hc, decide_false, Bool.false_eq_true, if_false, IH]
theorem pack_l0 {s : ByteArray} (hs : s.size ≤ 40) : ∀ (m n N j : Nat), 100 < N → j + m = (W s.size).toNat → m < n → m_keys_Pack_l0 N n s ((W s.size).toNat : Int) j ((List.range j).map fun j => part s j 8) = some (packS s, 0) := by
  have hW := W_le (n := (s.size : Int)) (by omega)
  intro m
  induction m with
  | zero =>
    intro n N j hN hm hn
    obtain ⟨n, rfl⟩ : ∃ q, n = q + 1 := ⟨n - 1, by omega⟩
    obtain rfl : j = (W s.size).toNat := by omega
    simp [m_keys_Pack_l0, m_keys_Pack_l0_b, packS]
  | succ m ih =>
    intro n N j hN hm hn
    obtain ⟨n, rfl⟩ : ∃ q, n = q + 1 := ⟨n - 1, by omega⟩
    have IH := ih n N (j + 1) hN (by omega) (by omega)
    have h1 := pack_l1 hs (m_keys_Pack_l0 N n) (W s.size).toNat j (by omega) ((List.range j).map fun j => part s j 8) (by simp; omega) 8 N N 0 (by omega) (by omega)
    rw [List.range_succ, List.map_append] at IH
    simp only [m_keys_Pack_l0, m_keys_Pack_l0_b, show (j : Int) < ((W s.size).toNat : Int) by omega, decide_true, if_true]
    exact h1.trans IH
theorem keys_Pack (s : ByteArray) : m_keys_Pack s = some (if s.size ≤ 40 then (packS s, (0 : Int)) else ([], 5)) := by
  unfold m_keys_Pack m_keys_Pack_a m_keys_ValidValue
  by_cases h : s.size ≤ 40
  · have h0 := W_nonneg (s.size : Int)
    have := pack_l0 h (W s.size).toNat FUEL FUEL 0 (by have := FUEL_big; omega) (by omega) (by have := FUEL_big; have := W_le (n := (s.size : Int)) (by omega); omega)
    rw [show (((W s.size).toNat : Nat) : Int) = W s.size by omega] at this
    simp only [show (s.size : Int) ≤ 40 by omega, decide_true, Option.bind_some, Bool.not_true, Bool.false_eq_true, if_false, keys_Words (show (s.size : Int) < 9223372036854775808 by omega), h, if_true]
    exact this
  · simp [show ¬ (s.size : Int) ≤ 40 by omega, h]

theorem splice_length {α : Type} (xs ys : List α) {off : Int} (h0 : 0 ≤ off) (h : off.toNat + ys.length ≤ xs.length) : (splice xs off ys).length = xs.length := by
  unfold splice; simp; omega
end Go.Ev.L

/- The page of a plan; law 14's pages and swaps. -/
set_option linter.unusedVariables false
set_option linter.unusedSimpArgs false
namespace Go.Ev.L
open Go Go.Ev Go.Ev.M

abbrev Sp := Int × (Int × Unit)
def GS (l : List Sp) (i : Int) : Sp := l.getD i.toNat (0, (0, ()))
def U8 (l : List Int) : Prop := ∀ x, x ∈ l → 0 ≤ x ∧ x < 256
theorem U8.G {l : List Int} (h : U8 l) (i : Int) : 0 ≤ G l i ∧ G l i < 256 := by
  unfold L.G
  rw [List.getD_eq_getElem?_getD]
  cases e : l[i.toNat]? with
  | none => simp
  | some x => exact h x (List.mem_of_getElem? e)
def SpOK (l : List Sp) : Prop := ∀ x, x ∈ l → 0 ≤ x.1 ∧ x.1 < 256 ∧ 0 ≤ x.2.1 ∧ x.2.1 < 18446744073709551616
theorem SpOK.G {l : List Sp} (h : SpOK l) (i : Int) : 0 ≤ (GS l i).1 ∧ (GS l i).1 < 256 ∧ 0 ≤ (GS l i).2.1 ∧ (GS l i).2.1 < 18446744073709551616 := by
  unfold GS
  rw [List.getD_eq_getElem?_getD]
  cases e : l[i.toNat]? with
  | none => simp
  | some x => exact h x (List.mem_of_getElem? e)
/-- a page, and whether it is the plan's -/
def PRes (l : List Pr) (r : Option (List Int × Bool)) : Prop := ∃ p b, r = some (p, b) ∧ PageOK p ∧ (b = true → l.length ≤ 60 ∧ ∀ x, x ∈ l → x.1.size ≤ 60 ∧ x.2.1.size ≤ 60)
theorem PRes.zero (l : List Pr) : PRes l (some (List.replicate 128 0, false)) := ⟨_, _, rfl, page_zero, fun h => by cases h⟩

theorem PageOK.len {p : List Int} (h : PageOK p) : p.length = 128 := h.1

end Go.Ev.L

/- The order of strings; law 14's made pages and swaps. -/
set_option linter.unusedVariables false
set_option linter.unusedSimpArgs false
namespace Go.Ev.L
open Go Go.Ev Go.Ev.M
open Go.Lib (compareBytes cmp_eq)

theorem strEq_iff {x y : ByteArray} : strEq x y = true ↔ x = y := by
  unfold strEq
  rw [ByteArray.toList_eq, ByteArray.toList_eq, beq_iff_eq]
  obtain ⟨a⟩ := x
  obtain ⟨b⟩ := y
  simp
theorem u8_tri (a b : UInt8) : a < b ∨ a = b ∨ b < a := by
  rcases Nat.lt_trichotomy a.toNat b.toNat with h | h | h
  · exact .inl (UInt8.lt_iff_toNat_lt.2 h)
  · exact .inr (.inl (UInt8.toNat_inj.1 h))
  · exact .inr (.inr (UInt8.lt_iff_toNat_lt.2 h))
theorem u8_asymm {a b : UInt8} (h : a < b) : ¬ b < a := by
  rw [UInt8.lt_iff_toNat_lt] at *; omega
theorem u8_ne {a b : UInt8} (h : a < b) : a ≠ b := fun e => by subst e; exact UInt8.lt_irrefl _ h

abbrev bl := Op.bytesLess
theorem bl_cons (a b : UInt8) (x y : List UInt8) : bl (a :: x) (b :: y) = (decide (a < b) || (a == b && bl x y)) := rfl
theorem bl_irrefl : ∀ x, bl x x = false := by
  intro x
  induction x with
  | nil => rfl
  | cons a x ih => rw [bl_cons, ih]; simp
theorem bl_trans : ∀ {x y z}, bl x y = true → bl y z = true → bl x z = true := by
  intro x
  induction x with
  | nil =>
    intro y z h1 h2
    cases z with
    | nil => cases y <;> simp [Op.bytesLess] at h2
    | cons c z => rfl
  | cons a x ih =>
    intro y z h1 h2
    cases y with
    | nil => simp [Op.bytesLess] at h1
    | cons b y =>
      cases z with
      | nil => simp [Op.bytesLess] at h2
      | cons c z =>
        rw [bl_cons, Bool.or_eq_true, Bool.and_eq_true, decide_eq_true_eq, beq_iff_eq] at *
        rcases h1 with h1 | ⟨rfl, h1⟩
        · rcases h2 with h2 | ⟨rfl, h2⟩
          · left; rw [UInt8.lt_iff_toNat_lt] at *; omega
          · exact .inl h1
        · rcases h2 with h2 | ⟨rfl, h2⟩
          · exact .inl h2
          · exact .inr ⟨rfl, ih h1 h2⟩
theorem bl_tri : ∀ (x y), bl x y = true ∨ x = y ∨ bl y x = true := by
  intro x
  induction x with
  | nil => intro y; cases y with
    | nil => exact .inr (.inl rfl)
    | cons b y => exact .inl rfl
  | cons a x ih =>
    intro y
    cases y with
    | nil => exact .inr (.inr rfl)
    | cons b y =>
      rw [bl_cons, bl_cons]
      rcases u8_tri a b with h | rfl | h
      · left; simp [h]
      · rcases ih y with h | rfl | h
        · left; simp [h]
        · exact .inr (.inl rfl)
        · right; right; simp [h]
      · right; right; simp [h]
theorem compare_bl : ∀ (x y : List UInt8), compareBytes x y = if bl x y = true then -1 else if bl y x = true then 1 else 0 := by
  intro x
  induction x with
  | nil => intro y; cases y <;> rfl
  | cons a x ih =>
    intro y
    cases y with
    | nil => rfl
    | cons b y =>
      unfold compareBytes
      rw [bl_cons, bl_cons]
      rcases u8_tri a b with h | rfl | h
      · simp [h]
      · have := UInt8.lt_irrefl a
        simp [ih]
      · have h1 := u8_asymm h
        have h2 := u8_ne h
        simp [h, h1, h2.symm]

/-- the order of strings -/
def cmpI (a b : ByteArray) : Int := if strLt a b = true then -1 else if strLt b a = true then 1 else 0
theorem keys_Compare (a b : ByteArray) : m_keys_Compare a b = some (cmpI a b) := by
  unfold m_keys_Compare m_strings_Compare m_internal_bytealg_CompareString cmpS cmpI strLt
  rw [cmp_eq, compare_bl, ByteArray.toList_eq, ByteArray.toList_eq]
  rfl
theorem strLt_irrefl (a : ByteArray) : strLt a a = false := bl_irrefl _
theorem strLt_trans {a b c : ByteArray} (h1 : strLt a b = true) (h2 : strLt b c = true) : strLt a c = true := bl_trans h1 h2
theorem strLt_tri (a b : ByteArray) : strLt a b = true ∨ a = b ∨ strLt b a = true := by
  rcases bl_tri a.toList b.toList with h | h | h
  · exact .inl h
  · refine .inr (.inl (strEq_iff.1 ?_))
    unfold strEq; rw [h]; simp
  · exact .inr (.inr h)
theorem strLt_asymm {a b : ByteArray} (h : strLt a b = true) : strLt b a = false := by
  rw [Bool.eq_false_iff]
  intro h'
  have := strLt_trans h h'
  rw [strLt_irrefl] at this
  cases this

end Go.Ev.L

/- Unpacking inverts packing. -/
set_option linter.unusedVariables false
set_option linter.unusedSimpArgs false
namespace Go.Ev.L
open Go Go.Ev Go.Ev.M

theorem w8_part (s : ByteArray) (j : Nat) : w8 (part s j 8) = [B s (8 * j), B s (8 * j + 1), B s (8 * j + 2), B s (8 * j + 3), B s (8 * j + 4), B s (8 * j + 5), B s (8 * j + 6), B s (8 * j + 7)] := by
  have h0 := B_range s (8 * j)
  have h1 := B_range s (8 * j + 1)
  have h2 := B_range s (8 * j + 2)
  have h3 := B_range s (8 * j + 3)
  have h4 := B_range s (8 * j + 4)
  have h5 := B_range s (8 * j + 5)
  have h6 := B_range s (8 * j + 6)
  have h7 := B_range s (8 * j + 7)
  have e : part s j 8 = 72057594037927936 * B s (8 * j) + 281474976710656 * B s (8 * j + 1) + 1099511627776 * B s (8 * j + 2) + 4294967296 * B s (8 * j + 3) + 16777216 * B s (8 * j + 4) + 65536 * B s (8 * j + 5) + 256 * B s (8 * j + 6) + B s (8 * j + 7) := by
    simp only [part, Nat.add_zero]; omega
  generalize part s j 8 = w at e
  simp only [w8, List.cons.injEq, and_true]
  refine ⟨?_, ?_, ?_, ?_, ?_, ?_, ?_, ?_⟩ <;> omega

theorem range_map8 (f : Nat → Int) (k : Nat) : (List.range (8 * (k + 1))).map f = (List.range (8 * k)).map f ++ [f (8 * k), f (8 * k + 1), f (8 * k + 2), f (8 * k + 3), f (8 * k + 4), f (8 * k + 5), f (8 * k + 6), f (8 * k + 7)] := by
  rw [show 8 * (k + 1) = 8 * k + 1 + 1 + 1 + 1 + 1 + 1 + 1 + 1 by omega]
  simp only [List.range_succ, List.map_append, List.map_cons, List.map_nil, List.append_assoc, List.cons_append, List.nil_append]
theorem b8_parts (s : ByteArray) : ∀ k : Nat, b8 ((List.range k).map fun j => part s j 8) = (List.range (8 * k)).map (B s) := by
  intro k
  induction k with
  | zero => rfl
  | succ k ih => rw [List.range_succ, List.map_append, b8_append, ih, range_map8]; simp only [List.map_cons, List.map_nil, b8_one, w8_part]
theorem b8_pack (s : ByteArray) : b8 (packS s) = (List.range (8 * (W s.size).toNat)).map (B s) := b8_parts s _

theorem strOf_B (s : ByteArray) : strOf ((List.range s.size).map (B s)) = s := by
  obtain ⟨a⟩ := s
  unfold strOf
  congr 1
  refine Array.ext (by simp; rfl) fun i h1 h2 => ?_
  simp only [List.getElem_toArray, List.getElem_map, List.getElem_range]
  have : B ⟨a⟩ i = (a[i].toNat : Int) := by
    show ((a.toList.getD i 0).toNat : Int) = _
    rw [List.getD_eq_getElem?_getD, List.getElem?_eq_getElem (by simpa using h2)]
    simp
  rw [this]
  simp
theorem U_pack (s : ByteArray) : U (packS s) s.size = some s := by
  have hW := W_le (n := (s.size : Int)) (by omega)
  unfold U zeroFrom
  rw [b8_pack]
  have hz : (((List.range (8 * (W s.size).toNat)).map (B s)).drop (s.size : Int).toNat).all (· == 0) = true := by
    rw [List.all_eq_true]
    intro x hx
    obtain ⟨i, hi⟩ := List.getElem?_of_mem hx
    rw [List.getElem?_drop, List.getElem?_map] at hi
    cases hr : (List.range (8 * (W s.size).toNat))[(s.size : Int).toNat + i]? with
    | none => rw [hr] at hi; cases hi
    | some y =>
      rw [hr] at hi
      have hy : y = (s.size : Int).toNat + i := by
        rw [List.getElem?_range] at hr
        · exact (Option.some.inj hr).symm
        · have := (List.getElem?_eq_some_iff.1 hr).1; simpa using this
      simp only [Option.map_some, Option.some.injEq] at hi
      rw [← hi, hy, B_out (by omega)]; rfl
  rw [hz, if_pos rfl]
  congr 1
  rw [← List.map_take, List.take_range, Nat.min_eq_left (by omega), show (s.size : Int).toNat = s.size by omega, strOf_B]
end Go.Ev.L
