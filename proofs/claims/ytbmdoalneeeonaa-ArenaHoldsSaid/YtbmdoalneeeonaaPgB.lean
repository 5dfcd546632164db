/- Words and bytes: what packing and unpacking compute. -/
import Derived.Test.YtbmdoalneeeonaaPgA
import Derived.Test.YtbmdoalneeeonaaM14
import Derived.Test.YtbmdoalneeeonaaEvD
import Derived.KernelRfl
import Derived.Lib.Bytealg
set_option linter.unusedVariables false
set_option linter.unusedSimpArgs false
namespace Go.Ev.L
open Go Go.Ev Go.Ev.M

def G (p : List Int) (i : Int) : Int := p.getD i.toNat 0
theorem rd_G (k : IntKind) (p : List Int) (i : Int) : rd (.int k) p i = G p i := rfl

/-- how many words some bytes have -/
def W (n : Int) : Int := if n ≤ 0 then 0 else (n + 7) / 8
theorem keys_Words {n : Int} (h : n < 9223372036854775808) : m_keys_Words n = some (W n) := by
  unfold m_keys_Words W
  by_cases h0 : n ≤ 0
  · simp [h0]
  · simp only [h0, decide_false, Bool.false_eq_true, if_false]
    rw [wI (x := n - 1) (by omega) (by omega), td8 (by omega), wI (x := (n - 1) / 8) (by omega) (by omega), wI (by omega) (by omega)]
    congr 1; omega
theorem ref14_Words {n : Int} (h0 : 0 ≤ n) (h : n < 9223372036854775800) : m_ticketlineref14_Words n = some (W n) := by
  unfold m_ticketlineref14_Words W
  rw [wI (x := n + 7) (by omega) (by omega), td8 (by omega), wI (by omega) (by omega)]
  split
  · congr 1; omega
  · rfl
theorem W_nonneg (n : Int) : 0 ≤ W n := by unfold W; split <;> omega
theorem W_le {n : Int} (h : 0 ≤ n) : 8 * W n ≤ n + 7 ∧ n ≤ 8 * W n := by unfold W; split <;> omega

/-- the bytes of a word, the highest first -/
def w8 (w : Int) : List Int := [w / 72057594037927936 % 256, w / 281474976710656 % 256, w / 1099511627776 % 256, w / 4294967296 % 256, w / 16777216 % 256, w / 65536 % 256, w / 256 % 256, w % 256]
theorem w8_length (w : Int) : (w8 w).length = 8 := rfl
def b8 (l : List Int) : List Int := l.flatMap w8
theorem b8_length (l : List Int) : (b8 l).length = 8 * l.length := by
  induction l with
  | nil => rfl
  | cons w l ih => simp only [b8, List.flatMap_cons, List.length_append, w8_length, List.length_cons] at *; omega
theorem b8_append (l m : List Int) : b8 (l ++ m) = b8 l ++ b8 m := by simp [b8]
theorem b8_one (w : Int) : b8 [w] = w8 w := by simp [b8]

/-- words of 64 bits -/
def U64 (l : List Int) : Prop := ∀ x, x ∈ l → 0 ≤ x ∧ x < 18446744073709551616

theorem U64.G {l : List Int} (h : U64 l) (i : Int) : 0 ≤ G l i ∧ G l i < 18446744073709551616 := by
  unfold L.G
  rw [List.getD_eq_getElem?_getD]
  cases e : l[i.toNat]? with
  | none => simp
  | some x => exact h x (List.mem_of_getElem? e)

theorem shr_u64 {w : Int} (h : 0 ≤ w) (y : Int) (m : Int) (hm : m = 2 ^ (min y.toNat 64)) (hp : 0 < m) : shrI .u64 w y = w / m := by
  unfold shrI
  rw [show IntKind.bits .u64 = 64 from rfl, ← hm]
  exact Int.fdiv_eq_ediv_of_nonneg _ (by omega)

/-- all zero from n on -/
def zeroFrom (b : List Int) (n : Nat) : Bool := (b.drop n).all (· == 0)

theorem unpack_l2 (N a b c o : Int) : ∀ (n : Nat) (M i : Nat) (out : List Int), 0 ≤ a → 0 ≤ b → (b + c : Int) = out.length → 0 ≤ c → (i : Int) ≤ c → c < i + n → c < 1000000 → a ≤ out.length →
    m_keys_Unpack_l2 M n a b c c i out = if zeroFrom out (b.toNat + i) = true then some (strOf (out.take a.toNat), 0) else some (⟨#[]⟩, 12) := by
  intro n
  induction n with
  | zero => intro M i out h1 h2 h3 h4 h5 h6; omega
  | succ n ih =>
    intro M i out h1 h2 h3 h4 h5 h6 h7 h8
    simp only [m_keys_Unpack_l2, m_keys_Unpack_l2_b, rd_G]
    by_cases hi : (i : Int) < c
    · have hlt : b.toNat + i < out.length := by omega
      have hd : out.drop (b.toNat + i) = out[b.toNat + i] :: out.drop (b.toNat + i + 1) := List.drop_eq_getElem_cons hlt
      have hg : G out (b + (i : Int)) = out[b.toNat + i] := by
        unfold G
        rw [show (b + (i : Int)).toNat = b.toNat + i by omega, List.getD_eq_getElem?_getD, List.getElem?_eq_getElem hlt]; rfl
      have hz : zeroFrom out (b.toNat + i) = (out[b.toNat + i] == 0 && zeroFrom out (b.toNat + (i + 1))) := by
        unfold zeroFrom; rw [hd]; simp [Nat.add_assoc]
      simp (disch := omega) only [hg, hz, wI]
      have := ih M (i + 1) out h1 h2 h3 h4 (by omega) (by omega) h7 h8
      simp only [hi, decide_true, if_true, Int.natCast_nonneg]
      by_cases hx : out[b.toNat + i] = 0
      · simp only [hx, bne_self_eq_false, Bool.false_eq_true, if_false, beq_self_eq_true, Bool.true_and]
        exact_mod_cast this
      · simp [hx]
    · have hic : (i : Int) = c := by omega
      have hz : zeroFrom out (b.toNat + i) = true := by
        unfold zeroFrom; rw [List.drop_eq_nil_of_le (by omega)]; rfl
      simp only [hi, decide_false, Bool.false_eq_true, if_false, hz, if_true, h1, h8]
      simp [win]

theorem unpack_l1 (N n : Nat) (s0 : (Int → (List Int) → Int → Int → (List Int) → Option (ByteArray × Int))) (a w len i : Int) (l out : List Int) (h0 : 0 ≤ w) (hn : 9 ≤ n) (ho : out.length ≤ 100000) :
    m_keys_Unpack_l1 N s0 n a w 7 l len i out = s0 a l len (IntKind.i64.wrap (i + 1)) (out ++ w8 w) := by
  obtain ⟨n, rfl⟩ : ∃ m, n = m + 9 := ⟨n - 9, by omega⟩
  have step : ∀ (k : Nat) (n : Nat) (out : List Int) (m : Int), k ≤ 7 → out.length ≤ 200000 → m = 2 ^ (8 * k) → m_keys_Unpack_l1 N s0 (n + 1) a w (k : Int) l len i out = m_keys_Unpack_l1 N s0 n a w ((k : Int) - 1) l len i (out ++ [w / m % 256]) := by
    intro k n out m hk ho hm
    have hp : 0 < m := by rw [hm]; exact Int.pow_pos (by omega)
    simp only [m_keys_Unpack_l1, m_keys_Unpack_l1_b]
    rw [wI (x := 8 * (k : Int)) (by omega) (by omega), wI (x := (k : Int) - 1) (by omega) (by omega)]
    have hs : shrI .u64 w (8 * (k : Int)) = w / m := shr_u64 h0 _ _ (by rw [hm, show (8 * (k : Int)).toNat = 8 * k by omega, Nat.min_eq_left (by omega)]) hp
    have hf : fits (List.length out + 1) 1 := by unfold fits; omega
    simp [hs, wBmod, hf, show (0 : Int) ≤ 8 * (k : Int) by omega]
  have hl : ∀ (x : Int) (o : List Int), (o ++ [x]).length = o.length + 1 := by simp
  have e7 := step 7 (n + 8) out 72057594037927936 (by omega) (by omega) (by decide)
  have e6 := step 6 (n + 7) (out ++ [w / 72057594037927936 % 256]) 281474976710656 (by omega) (by simp only [hl]; omega) (by decide)
  have e5 := step 5 (n + 6) (out ++ [w / 72057594037927936 % 256] ++ [w / 281474976710656 % 256]) 1099511627776 (by omega) (by simp only [hl]; omega) (by decide)
  have e4 := step 4 (n + 5) (out ++ [w / 72057594037927936 % 256] ++ [w / 281474976710656 % 256] ++ [w / 1099511627776 % 256]) 4294967296 (by omega) (by simp only [hl]; omega) (by decide)
  have e3 := step 3 (n + 4) (out ++ [w / 72057594037927936 % 256] ++ [w / 281474976710656 % 256] ++ [w / 1099511627776 % 256] ++ [w / 4294967296 % 256]) 16777216 (by omega) (by simp only [hl]; omega) (by decide)
  have e2 := step 2 (n + 3) (out ++ [w / 72057594037927936 % 256] ++ [w / 281474976710656 % 256] ++ [w / 1099511627776 % 256] ++ [w / 4294967296 % 256] ++ [w / 16777216 % 256]) 65536 (by omega) (by simp only [hl]; omega) (by decide)
  have e1 := step 1 (n + 2) (out ++ [w / 72057594037927936 % 256] ++ [w / 281474976710656 % 256] ++ [w / 1099511627776 % 256] ++ [w / 4294967296 % 256] ++ [w / 16777216 % 256] ++ [w / 65536 % 256]) 256 (by omega) (by simp only [hl]; omega) (by decide)
  have e0 := step 0 (n + 1) (out ++ [w / 72057594037927936 % 256] ++ [w / 281474976710656 % 256] ++ [w / 1099511627776 % 256] ++ [w / 4294967296 % 256] ++ [w / 16777216 % 256] ++ [w / 65536 % 256] ++ [w / 256 % 256]) 1 (by omega) (by simp only [hl]; omega) (by decide)
  refine e7.trans (e6.trans (e5.trans (e4.trans (e3.trans (e2.trans (e1.trans (e0.trans ?_)))))))
  simp [m_keys_Unpack_l1, m_keys_Unpack_l1_b, w8]

/-- the string of some bytes of words, if all other bytes are 0 -/
def U (l : List Int) (n : Int) : Option ByteArray := if zeroFrom (b8 l) n.toNat = true then some (strOf ((b8 l).take n.toNat)) else none

theorem unpack_l0 (a : Int) (l : List Int) (hl : U64 l) (hlen : l.length ≤ 10000) (h0 : 0 ≤ a) (ha : a ≤ 8 * l.length) : ∀ (n N i : Nat) (out : List Int), 100000 < N → i ≤ l.length → l.length < i + n → out = b8 (l.take i) →
    m_keys_Unpack_l0 N n a l l.length i out = match U l a with | some s => some (s, 0) | none => some (⟨#[]⟩, 12) := by
  intro n
  induction n with
  | zero => intro N i out h1 h2 h3; omega
  | succ n ih =>
    intro N i out hN h2 h3 ho
    have hol : out.length = 8 * i := by rw [ho, b8_length, List.length_take]; omega
    simp only [m_keys_Unpack_l0, m_keys_Unpack_l0_b, rd_G]
    by_cases hi : i < l.length
    · have hg : G l (i : Int) = l[i] := by
        unfold G; rw [show (i : Int).toNat = i by omega, List.getD_eq_getElem?_getD, List.getElem?_eq_getElem hi]; rfl
      have hw := hl.G (i : Int)
      rw [unpack_l1 N N _ a _ _ _ l out hw.1 (by omega) (by omega), wI (by omega) (by omega)]
      have := ih N (i + 1) (out ++ w8 (G l i)) hN (by omega) (by omega) (by rw [ho, hg, List.take_succ_eq_append_getElem hi, b8_append, b8_one])
      simp only [show (i : Int) < l.length by omega, decide_true, if_true, Int.natCast_nonneg]
      exact_mod_cast this
    · have hil : i = l.length := by omega
      subst hil
      have ho' : out = b8 l := by rw [ho, List.take_length]
      have hlt : (0 : Int) ≤ out.length := by omega
      have := unpack_l2 0 a a (out.length - a) 0 N N 0 out h0 h0 (by omega) (by omega) (by omega) (by omega) (by omega) (by omega)
      simp only [Int.lt_irrefl, decide_false, Bool.false_eq_true, if_false, hlt, if_true, Int.le_refl, h0, show a ≤ (out.length : Int) by omega]
      refine this.trans ?_
      unfold U
      rw [ho', Nat.add_zero]
      split <;> simp_all

theorem FUEL_big : 1000000 < FUEL := by unfold FUEL; omega

/-- the string of so many bytes of words, or the error -/
theorem keys_Unpack (l : List Int) (n : Int) (hl : U64 l) (hlen : l.length ≤ 10000) : m_keys_Unpack l n = some (
    (if n < 0 then (⟨#[]⟩, 2) else if n > 40 then (⟨#[]⟩, 5) else if (l.length : Int) ≠ W n then (⟨#[]⟩, 12) else match U l n with | some s => (s, 0) | none => (⟨#[]⟩, 12)) : ByteArray × Int) := by
  unfold m_keys_Unpack m_keys_Unpack_a
  by_cases h1 : n < 0
  · simp [h1]
  by_cases h2 : n > 40
  · simp [h1, h2]
  simp only [h1, h2, decide_false, Bool.false_eq_true, if_false]
  rw [keys_Words (by omega)]
  by_cases h3 : (l.length : Int) = W n
  · have := W_le (n := n) (by omega)
    have h4 := unpack_l0 n l hl hlen (by omega) (by omega) FUEL FUEL 0 [] (by have := FUEL_big; omega) (by omega) (by have := FUEL_big; omega) (by simp [b8])
    simp only [Option.bind_some, h3, bne_self_eq_false, Bool.false_eq_true, if_false, ne_eq, not_true]
    rw [h3] at h4
    refine Eq.trans (by exact_mod_cast h4) ?_
    split <;> simp_all
  · simp [h3]
end Go.Ev.L

/- The reference's text of words. -/
set_option linter.unusedVariables false
set_option linter.unusedSimpArgs false
namespace Go.Ev.L
open Go Go.Ev Go.Ev.M

end Go.Ev.L

/- A page's fences, head and slots: what the program computes. -/
set_option linter.unusedVariables false
set_option linter.unusedSimpArgs false
namespace Go.Ev.L
open Go Go.Ev Go.Ev.M

/-- 128 words -/
def PageOK (p : List Int) : Prop := p.length = 128 ∧ U64 p

theorem U64.win {l : List Int} (h : U64 l) (a n : Int) : U64 (win l a n) := fun x hx => h x (List.mem_of_mem_drop (List.mem_of_mem_take hx))
theorem win_len {l : List Int} {a n : Int} (h0 : 0 ≤ a) (h1 : 0 ≤ n) (h : a + n ≤ l.length) : (win l a n).length = n.toNat := by
  have := win_length l h0 h1 h; omega
theorem win_add (l : List Int) {a b c : Int} (h0 : 0 ≤ a) (hb : 0 ≤ b) (hc : 0 ≤ c) : win l a (b + c) = win l a b ++ win l (a + b) c := by
  unfold Ev.win
  rw [show (b + c).toNat = b.toNat + c.toNat by omega, List.take_add, List.drop_drop, show (a + b).toNat = a.toNat + b.toNat by omega]

theorem w8_zero {w : Int} (h0 : 0 ≤ w) (h1 : w < 18446744073709551616) : (w8 w).all (· == 0) = (w == 0) := by
  by_cases h : w = 0
  · subst h; decide
  · have hb : (w == 0) = false := by simpa using h
    rw [hb, Bool.eq_false_iff]
    intro hc
    simp only [w8, List.all_cons, List.all_nil, Bool.and_true, Bool.and_eq_true, beq_iff_eq] at hc
    obtain ⟨c7, c6, c5, c4, c3, c2, c1, c0⟩ := hc
    apply h; omega
theorem b8_zero {l : List Int} (h : U64 l) : (b8 l).all (· == 0) = l.all (· == 0) := by
  induction l with
  | nil => rfl
  | cons w l ih =>
    have hw := h w (List.mem_cons_self ..)
    have := ih fun x hx => h x (List.mem_cons_of_mem _ hx)
    rw [show w :: l = [w] ++ l from rfl, b8_append, b8_one, List.all_append, List.all_append, w8_zero hw.1 hw.2, this]
    simp

theorem U_append {l m : List Int} (hm : U64 m) {n : Int} (h0 : 0 ≤ n) (h : n ≤ 8 * l.length) : U (l ++ m) n = if m.all (· == 0) = true then U l n else none := by
  unfold U zeroFrom
  have hlen : n.toNat ≤ (b8 l).length := by rw [b8_length]; omega
  rw [b8_append, List.drop_append_of_le_length hlen, List.all_append, b8_zero hm, List.take_append_of_le_length hlen]
  cases m.all (· == 0) <;> simp

def fenceS (p : List Int) (a : Int) : Option ByteArray := if G p a > 24 then none else U (win p (a + 1) 3) (G p a)

theorem fence_l0 {p : List Int} (v : List Int) (a nn used : Int) (r : Option (ByteArray × Int)) (h0 : 0 ≤ a) (h1 : a ≤ 100) (hu : a + 1 ≤ used) (hu' : used ≤ 128) (hv : v.length ≤ 1000)
    (hr : (m_keys_Unpack (win p (a + 1) (used - (a + 1))) nn).bind (fun r17 => some (r17.1, r17.2)) = r) : ∀ (n N i : Nat), i ≤ v.length → v.length < i + n →
    m_slot_fence_l0 N n p a nn used v v.length i = if (v.drop i).all (· == 0) = true then r else some (⟨#[]⟩, 12) := by
  intro n
  induction n with
  | zero => intro N i h1 h2; omega
  | succ n ih =>
    intro N i h2 h3
    simp only [m_slot_fence_l0, m_slot_fence_l0_b, rd_G]
    by_cases hi : i < v.length
    · have hg : G v (i : Int) = v[i] := by
        unfold G; rw [show (i : Int).toNat = i by omega, List.getD_eq_getElem?_getD, List.getElem?_eq_getElem hi]; rfl
      have hd : (v.drop i).all (· == 0) = (v[i] == 0 && (v.drop (i + 1)).all (· == 0)) := by rw [List.drop_eq_getElem_cons hi, List.all_cons]
      have := ih N (i + 1) (by omega) (by omega)
      rw [hd]
      simp (disch := omega) only [hg, wI]
      simp only [show (i : Int) < v.length by omega, decide_true, if_true, Int.natCast_nonneg]
      by_cases hx : v[i] = 0
      · simp only [hx, bne_self_eq_false, Bool.false_eq_true, if_false, beq_self_eq_true, Bool.true_and]
        exact_mod_cast this
      · simp [hx]
    · have hd : (v.drop i).all (· == 0) = true := by rw [List.drop_eq_nil_of_le (by omega)]; rfl
      simp (disch := omega) only [wI]
      simp only [show ¬ (i : Int) < v.length by omega, decide_false, Bool.false_eq_true, if_false, hd, if_true, show (0 : Int) ≤ used by omega, hu', show (0 : Int) ≤ a + 1 by omega, hu]
      exact hr

theorem slot_fence {p : List Int} (hp : PageOK p) {a : Int} (h0 : 0 ≤ a) (h1 : a ≤ 100) : m_slot_fence p a = some (match fenceS p a with | some s => (s, (0 : Int)) | none => (⟨#[]⟩, 12)) := by
  unfold m_slot_fence m_slot_fence_a fenceS
  simp only [rd_G, h0, show a < 128 by omega, if_true]
  by_cases h2 : G p a > 24
  · simp [h2]
  · have hg := hp.2.G a
    have hW := W_le (n := G p a) hg.1
    have hW3 : W (G p a) ≤ 3 := by omega
    have hW0 := W_nonneg (G p a)
    simp (disch := omega) only [h2, decide_false, Bool.false_eq_true, if_false, wI, keys_Words, Option.bind_some]
    simp only [show (0 : Int) ≤ a + 4 by omega, show a + 4 ≤ 128 by omega, show (0 : Int) ≤ a + 1 + W (G p a) by omega, show a + 1 + W (G p a) ≤ a + 4 by omega, if_true]
    have hlen := hp.1
    have hl1 : (win p (a + 1) (W (G p a))).length = (W (G p a)).toNat := win_len (by omega) (by omega) (by omega)
    have hl2 : (win p (a + 1 + W (G p a)) (a + 4 - (a + 1 + W (G p a)))).length = (a + 4 - (a + 1 + W (G p a))).toNat := win_len (by omega) (by omega) (by omega)
    have hU := keys_Unpack (win p (a + 1) (W (G p a))) (G p a) (hp.2.win _ _) (by omega)
    have := fence_l0 (p := p) (win p (a + 1 + W (G p a)) (a + 4 - (a + 1 + W (G p a)))) a (G p a) (a + 1 + W (G p a)) _ h0 h1 (by omega) (by omega) (by omega) rfl FUEL FUEL 0 (by omega) (by have := FUEL_big; omega)
    refine (by exact_mod_cast this : _ = _).trans ?_
    rw [show a + 1 + W (G p a) - (a + 1) = W (G p a) by omega, hU]
    have hs : win p (a + 1) 3 = win p (a + 1) (W (G p a)) ++ win p (a + 1 + W (G p a)) (a + 4 - (a + 1 + W (G p a))) := by
      rw [← win_add _ (by omega) (by omega) (by omega)]; congr 1; omega
    rw [hs, U_append (hp.2.win _ _) hg.1 (by omega), List.drop_zero]
    simp only [show ¬ G p a < 0 by omega, show ¬ G p a > 40 by omega, if_false, show ((win p (a + 1) (W (G p a))).length : Int) = W (G p a) by omega, ne_eq, not_true]
    split
    · cases U (win p (a + 1) (W (G p a))) (G p a) <;> rfl
    · rfl

def headB (p : List Int) : Bool := decide (1 ≤ G p 8) && decide (G p 8 ≤ 6) && decide (G p 9 ≤ 108) && decide (G p 10 ≤ 511) && decide (20 + G p 9 ≤ G p 11) && decide (G p 11 ≤ 128) && (fenceS p 12).isSome && (fenceS p 16).isSome

theorem slot_head {p : List Int} (hp : PageOK p) : m_slot_head p = some (headB p) := by
  unfold m_slot_head headB
  rw [slot_fence hp (a := 12) (by omega) (by omega), slot_fence hp (a := 16) (by omega) (by omega)]
  have h8 := hp.2.G 8
  have h9 := hp.2.G 9
  have h10 := hp.2.G 10
  have h11 := hp.2.G 11
  simp only [rd_G, Option.bind_some]
  by_cases c1 : G p 8 < 1
  · simp [c1, show ¬ (1 ≤ G p 8) by omega]
  by_cases c2 : G p 8 > 6
  · simp [c1, c2, show ¬ (G p 8 ≤ 6) by omega]
  by_cases c3 : G p 9 > 108
  · simp [c1, c2, c3, show ¬ (G p 9 ≤ 108) by omega]
  by_cases c4 : G p 10 > 511
  · simp [c1, c2, c3, c4, show ¬ (G p 10 ≤ 511) by omega]
  by_cases c5 : G p 11 > 128
  · simp [c1, c2, c3, c4, c5, show ¬ (G p 11 ≤ 128) by omega]
  simp (disch := omega) only [wU]
  by_cases c6 : G p 11 < 20 + G p 9
  · simp [c1, c2, c3, c4, c5, c6, show ¬ (20 + G p 9 ≤ G p 11) by omega]
  simp only [c1, c2, c3, c4, c5, c6, decide_false, Bool.false_eq_true, if_false, show 1 ≤ G p 8 by omega, show G p 8 ≤ 6 by omega, show G p 9 ≤ 108 by omega, show G p 10 ≤ 511 by omega, show 20 + G p 9 ≤ G p 11 by omega, show G p 11 ≤ 128 by omega, decide_true, Bool.true_and]
  cases fenceS p 12 <;> cases fenceS p 16 <;> rfl

def atS (w : Int) : Int := w / 65536
def keyS (w : Int) : Int := w / 256 % 256
def valS (w : Int) : Int := w % 256
def midS (w : Int) : Int := atS w + W (keyS w)
def endS (w : Int) : Int := midS w + W (valS w)

theorem band255 {x : Int} (h0 : 0 ≤ x) (h1 : x < 18446744073709551616) : band .u64 x 255 = x % 256 := by
  unfold band
  obtain ⟨n, rfl⟩ := Int.eq_ofNat_of_zero_le h0
  have e : (BitVec.ofInt 64 (n : Int) &&& BitVec.ofInt 64 (255 : Int)).toNat = n % 256 := by
    rw [BitVec.toNat_and]
    have e1 : (BitVec.ofInt 64 (n : Int)).toNat = n := by
      rw [BitVec.toNat_ofInt]; omega
    have e2 : (BitVec.ofInt 64 (255 : Int)).toNat = 255 := by decide
    rw [e1, e2]
    exact Nat.and_two_pow_sub_one_eq_mod n 8
  show IntKind.u64.wrap ((BitVec.ofInt 64 (n : Int) &&& BitVec.ofInt 64 (255 : Int)).toNat : Int) = _
  rw [e, wU (by omega) (by omega)]
  omega

theorem keyS_range (w : Int) : 0 ≤ keyS w ∧ keyS w < 256 := by unfold keyS; omega
theorem valS_range (w : Int) : 0 ≤ valS w ∧ valS w < 256 := by unfold valS; omega

theorem slot_entryOf {w : Int} (h0 : 0 ≤ w) (h1 : w < 18446744073709551616) : m_slot_entryOf w = some (atS w, midS w, endS w, keyS w, valS w, ()) := by
  have hk := keyS_range w
  have hv := valS_range w
  have Wk := W_le hk.1
  have Wv := W_le hv.1
  have e1 : shrI .u64 w 16 = w / 65536 := shr_u64 h0 16 65536 (by decide) (by decide)
  have e2 : shrI .u64 w 8 = w / 256 := shr_u64 h0 8 256 (by decide) (by decide)
  unfold m_slot_entryOf
  simp only [e1, e2]
  rw [band255 (by omega) (by omega), band255 h0 h1]
  change 0 ≤ w / 256 % 256 ∧ w / 256 % 256 < 256 at hk
  change 0 ≤ w % 256 ∧ w % 256 < 256 at hv
  unfold midS endS midS atS keyS valS
  unfold keyS at Wk
  unfold valS at Wv
  simp (disch := omega) only [wI, keys_Words, Option.bind_some]

/-- the word of a slot -/
def sw (p : List Int) (i : Int) : Int := G p (20 + i)
def sizedB (p : List Int) (i : Int) : Bool :=
  decide (atS (sw p i) < 128) && decide (keyS (sw p i) ≤ 24) && (decide (1 ≤ keyS (sw p i)) || (!(G p 8 == 1) && decide (i ≤ 0))) &&
  (if G p 8 == 1 then decide (valS (sw p i) ≤ 40) else valS (sw p i) == 8) && decide (G p 11 ≤ atS (sw p i)) && decide (endS (sw p i) ≤ 128)

theorem slot_sized {p : List Int} (hp : PageOK p) {i : Int} (h0 : 0 ≤ i) (h1 : i < 108) : m_slot_sized p i = some (sizedB p i) := by
  have hw := hp.2.G (20 + i)
  have e1 : shrI .u64 (G p (20 + i)) 16 = G p (20 + i) / 65536 := shr_u64 hw.1 16 65536 (by decide) (by decide)
  have hk := keyS_range (G p (20 + i))
  have hv := valS_range (G p (20 + i))
  have hE := slot_entryOf hw.1 hw.2
  have ha : atS (G p (20 + i)) = G p (20 + i) / 65536 := rfl
  rw [← ha] at e1
  unfold m_slot_sized sizedB sw
  dsimp only
  rw [wI (x := 20 + i) (by omega) (by omega)]
  simp only [show (0 : Int) ≤ 20 + i by omega, show 20 + i < 128 by omega, if_true]
  simp only [rd_G]
  rw [hE, Option.bind_some]
  dsimp only
  simp only [e1]
  by_cases c1 : atS (G p (20 + i)) ≥ 128
  · simp [c1, show ¬ atS (G p (20 + i)) < 128 by omega]
  have hat : 0 ≤ atS (G p (20 + i)) := by unfold atS; omega
  rw [wU (x := atS (G p (20 + i))) (by omega) (by omega)]
  by_cases c2 : keyS (G p (20 + i)) > 24
  · simp [c1, c2, show ¬ keyS (G p (20 + i)) ≤ 24 by omega]
  generalize endS (G p (20 + i)) = en
  generalize valS (G p (20 + i)) = va at *
  generalize keyS (G p (20 + i)) = ke at *
  generalize atS (G p (20 + i)) = at' at *
  by_cases c4 : G p 8 = 1
  · have e4 : (G p 8 == 1) = true := by simpa using c4
    simp only [e4, c1, c2, if_true, Bool.not_true, Bool.false_eq_true, if_false, decide_false, show at' < 128 by omega, show ke ≤ 24 by omega, decide_true, Bool.true_and, Bool.false_and, Bool.or_false]
    by_cases c3 : ke = 0
    · simp [c3]
    · have e3 : (ke == 0) = false := by simpa using c3
      simp only [e3, Bool.false_eq_true, if_false, show 1 ≤ ke by omega, decide_true, Bool.true_and]
      by_cases c6 : va > 40
      · simp only [c6, decide_true, if_true, show ¬ va ≤ 40 by omega, decide_false, Bool.false_and]
      · simp only [c6, decide_false, Bool.false_eq_true, if_false, show va ≤ 40 by omega, decide_true, Bool.true_and]
        by_cases c8 : at' ≥ G p 11
        · simp only [c8, decide_true, if_true, show G p 11 ≤ at' by omega, Bool.true_and]
        · simp only [c8, decide_false, Bool.false_eq_true, if_false, show ¬ G p 11 ≤ at' by omega, Bool.false_and]
  · have e4 : (G p 8 == 1) = false := by simpa using c4
    simp only [e4, c1, c2, if_true, Bool.not_true, Bool.not_false, Bool.false_eq_true, if_false, decide_false, show at' < 128 by omega, show ke ≤ 24 by omega, decide_true, Bool.true_and, Bool.false_and, Bool.or_false]
    have fin : (if (va != 8) = true then some false else if decide (at' ≥ G p 11) = true then some (decide (en ≤ 128)) else some false) = some (va == 8 && decide (G p 11 ≤ at') && decide (en ≤ 128)) := by
      by_cases c7 : va = 8
      · have e7 : (va == 8) = true := by simpa using c7
        have e7' : (va != 8) = false := by simp [c7]
        simp only [e7, e7', Bool.false_eq_true, if_false, Bool.true_and]
        by_cases c8 : at' ≥ G p 11
        · simp only [c8, decide_true, if_true, show G p 11 ≤ at' by omega, Bool.true_and]
        · simp only [c8, decide_false, Bool.false_eq_true, if_false, show ¬ G p 11 ≤ at' by omega, Bool.false_and]
      · have e7 : (va == 8) = false := by simpa using c7
        have e7' : (va != 8) = true := by simp [c7]
        simp only [e7, e7', if_true, Bool.false_and]
    by_cases c3 : ke = 0
    · have e3 : (ke == 0) = true := by simpa using c3
      simp only [e3, if_true, show ¬ 1 ≤ ke by omega, decide_false, Bool.false_or]
      by_cases c5 : i > 0
      · simp only [c5, decide_true, if_true, show ¬ i ≤ 0 by omega, decide_false, Bool.false_and]
      · simp only [c5, decide_false, Bool.false_eq_true, if_false, show i ≤ 0 by omega, decide_true, Bool.true_and]
        exact fin
    · have e3 : (ke == 0) = false := by simpa using c3
      simp only [e3, Bool.false_eq_true, if_false, show 1 ≤ ke by omega, decide_true, Bool.true_or, Bool.true_and]
      exact fin
end Go.Ev.L

/- The slots of a page: what the program computes. -/
set_option linter.unusedVariables false
set_option linter.unusedSimpArgs false
namespace Go.Ev.L
open Go Go.Ev Go.Ev.M

/-- key and value of a slot, if its bytes are right -/
def keyOf (p : List Int) (i : Int) : Option ByteArray := U (win p (atS (sw p i)) (W (keyS (sw p i)))) (keyS (sw p i))
def valOf (p : List Int) (i : Int) : Option ByteArray := U (win p (midS (sw p i)) (W (valS (sw p i)))) (valS (sw p i))
def textB (p : List Int) (i : Int) : Bool := (keyOf p i).isSome && (valOf p i).isSome
def childB (p : List Int) (i : Int) : Bool := !decide (G p 8 > 1) || (decide (1 ≤ G p (midS (sw p i))) && decide (G p (midS (sw p i)) ≤ 511))
def goodB (p : List Int) (i : Int) : Bool := sizedB p i && textB p i && childB p i
def pairOf (p : List Int) (i : Int) : ByteArray × (ByteArray × Unit) := ((keyOf p i).getD ⟨#[]⟩, ((valOf p i).getD ⟨#[]⟩, ()))
def overB (p : List Int) (i j : Int) : Bool := decide (atS (sw p i) < endS (sw p j)) && decide (atS (sw p j) < endS (sw p i))
def anyO (p : List Int) (i : Nat) (k : Nat) : Nat → Bool
  | 0 => false
  | m + 1 => overB p i k || anyO p i (k + 1) m
def slotB (p : List Int) (i : Nat) : Bool := goodB p i && !anyO p i 0 i
def validFrom (p : List Int) (i : Nat) : Nat → Bool
  | 0 => true
  | m + 1 => slotB p i && validFrom p (i + 1) m
def count (p : List Int) : Nat := (G p 9).toNat
def validB (p : List Int) : Bool := headB p && validFrom p 0 (count p)
def pairsTo (p : List Int) (n : Nat) : List (ByteArray × (ByteArray × Unit)) := (List.range n).map fun i => pairOf p (i : Nat)
def pairsS (p : List Int) : List (ByteArray × (ByteArray × Unit)) := pairsTo p (count p)

theorem pairsTo_succ (p : List Int) (n : Nat) : pairsTo p (n + 1) = pairsTo p n ++ [pairOf p n] := by simp [pairsTo, List.range_succ]
theorem pairsTo_length (p : List Int) (n : Nat) : (pairsTo p n).length = n := by simp [pairsTo]

structure Sized (p : List Int) (i : Int) : Prop where
  at0 : 0 ≤ atS (sw p i)
  at1 : atS (sw p i) < 128
  key0 : 0 ≤ keyS (sw p i)
  key : keyS (sw p i) ≤ 24
  val0 : 0 ≤ valS (sw p i)
  val : valS (sw p i) ≤ 40
  end1 : endS (sw p i) ≤ 128
  some : atS (sw p i) < endS (sw p i)
  mid0 : atS (sw p i) ≤ midS (sw p i)
  mid1 : midS (sw p i) ≤ endS (sw p i)
  inner : G p 8 ≠ 1 → valS (sw p i) = 8
  low : G p 11 ≤ atS (sw p i)
  mid2 : G p 8 ≠ 1 → midS (sw p i) < 128

theorem sized_spec {p : List Int} (hp : PageOK p) {i : Int} (h : sizedB p i = true) : Sized p i := by
  have hw := hp.2.G (20 + i)
  have hk := keyS_range (sw p i)
  have hv := valS_range (sw p i)
  have Wk := W_le hk.1
  have Wv := W_le hv.1
  have hat : 0 ≤ atS (sw p i) := by
    have : sw p i = G p (20 + i) := rfl
    unfold atS; omega
  simp only [sizedB, Bool.and_eq_true, decide_eq_true_eq, Bool.or_eq_true, Bool.not_eq_true', beq_eq_false_iff_ne, ne_eq] at h
  obtain ⟨⟨⟨⟨⟨h1, h2⟩, h3⟩, h4⟩, h5⟩, h6⟩ := h
  have hend : endS (sw p i) = midS (sw p i) + W (valS (sw p i)) := rfl
  have hmid : midS (sw p i) = atS (sw p i) + W (keyS (sw p i)) := rfl
  have hval : valS (sw p i) ≤ 40 ∧ (G p 8 ≠ 1 → valS (sw p i) = 8) := by
    by_cases c : G p 8 = 1
    · simp [c] at h4
      exact ⟨h4, fun h => absurd c h⟩
    · simp [c] at h4
      exact ⟨by omega, fun _ => h4⟩
  refine ⟨hat, h1, hk.1, h2, hv.1, hval.1, h6, ?_, by omega, by omega, hval.2, h5, fun hc => ?_⟩
  · rcases h3 with h3 | ⟨h3, _⟩
    · omega
    · have := hval.2 h3; omega
  · have := hval.2 hc; omega

theorem slot_text {p : List Int} (hp : PageOK p) {i : Int} (h : Sized p i) : m_slot_text p (atS (sw p i), midS (sw p i), endS (sw p i), keyS (sw p i), valS (sw p i), ()) = some (match keyOf p i with
    | none => (((⟨#[]⟩ : ByteArray), ((⟨#[]⟩ : ByteArray), ())), (12 : Int))
    | some k => match valOf p i with
      | none => ((k, ((⟨#[]⟩ : ByteArray), ())), 12)
      | some v => ((k, (v, ())), 0)) := by
  have Wk := W_le h.key0
  have Wv := W_le h.val0
  have hend : endS (sw p i) = midS (sw p i) + W (valS (sw p i)) := rfl
  have hmid : midS (sw p i) = atS (sw p i) + W (keyS (sw p i)) := rfl
  have h1 := h.at0
  have h2 := h.end1
  have h3 := h.mid0
  have h4 := h.mid1
  have h5 := h.key
  have h6 := h.val
  have hlen := hp.1
  have W0 := W_nonneg (keyS (sw p i))
  have W1 := W_nonneg (valS (sw p i))
  have l1 : (win p (atS (sw p i)) (W (keyS (sw p i)))).length = (W (keyS (sw p i))).toNat := win_len (by omega) (by omega) (by omega)
  have l2 : (win p (midS (sw p i)) (W (valS (sw p i)))).length = (W (valS (sw p i))).toNat := win_len (by omega) (by omega) (by omega)
  have u1 := keys_Unpack (win p (atS (sw p i)) (W (keyS (sw p i)))) (keyS (sw p i)) (hp.2.win _ _) (by omega)
  have u2 := keys_Unpack (win p (midS (sw p i)) (W (valS (sw p i)))) (valS (sw p i)) (hp.2.win _ _) (by omega)
  have k0 := h.key0
  have v0 := h.val0
  simp only [show ¬ keyS (sw p i) < 0 by omega, show ¬ keyS (sw p i) > 40 by omega, if_false, show ((win p (atS (sw p i)) (W (keyS (sw p i)))).length : Int) = W (keyS (sw p i)) by omega, ne_eq, not_true] at u1
  simp only [show ¬ valS (sw p i) < 0 by omega, show ¬ valS (sw p i) > 40 by omega, if_false, show ((win p (midS (sw p i)) (W (valS (sw p i)))).length : Int) = W (valS (sw p i)) by omega, ne_eq, not_true] at u2
  unfold m_slot_text keyOf valOf
  dsimp only
  rw [show midS (sw p i) - atS (sw p i) = W (keyS (sw p i)) by omega, show endS (sw p i) - midS (sw p i) = W (valS (sw p i)) by omega, u1, u2]
  simp only [show (0 : Int) ≤ midS (sw p i) by omega, show midS (sw p i) ≤ 128 by omega, h1, h3, if_true, show (0 : Int) ≤ endS (sw p i) by omega, h2, h4, Option.bind_some]
  cases U (win p (atS (sw p i)) (W (keyS (sw p i)))) (keyS (sw p i)) with
  | none => rfl
  | some k => cases U (win p (midS (sw p i)) (W (valS (sw p i)))) (valS (sw p i)) <;> rfl

def anyT (t : List Bool) (w : Nat) : Nat → Bool
  | 0 => false
  | n + 1 => t.getD w false || anyT t (w + 1) n
def setT (t : List Bool) (w : Nat) : Nat → List Bool
  | 0 => t
  | n + 1 => setT (t.set w true) (w + 1) n
theorem anyT_set {t : List Bool} {w : Nat} {b : Bool} : ∀ (n x : Nat), w < x → anyT (t.set w b) x n = anyT t x n := by
  intro n
  induction n with
  | zero => intro x _; rfl
  | succ n ih =>
    intro x hx
    simp only [anyT, ih (x + 1) (by omega)]
    congr 1
    simp [List.getD_eq_getElem?_getD, List.getElem?_set_ne (show w ≠ x by omega)]
theorem anyT_iff {t : List Bool} : ∀ (n w : Nat), anyT t w n = true ↔ ∃ x, w ≤ x ∧ x < w + n ∧ t.getD x false = true := by
  intro n
  induction n with
  | zero => intro w; simp only [anyT, Bool.false_eq_true, false_iff]; rintro ⟨x, h1, h2, _⟩; omega
  | succ n ih =>
    intro w
    simp only [anyT, Bool.or_eq_true, ih]
    constructor
    · rintro (h | ⟨x, h1, h2, h3⟩)
      · exact ⟨w, by omega, by omega, h⟩
      · exact ⟨x, by omega, by omega, h3⟩
    · rintro ⟨x, h1, h2, h3⟩
      by_cases e : x = w
      · subst e; exact .inl h3
      · exact .inr ⟨x, by omega, by omega, h3⟩
theorem setT_length : ∀ (n w : Nat) (t : List Bool), (setT t w n).length = t.length := by
  intro n
  induction n with
  | zero => intro w t; rfl
  | succ n ih => intro w t; simp only [setT, ih, List.length_set]
theorem setT_getD : ∀ (n w : Nat) (t : List Bool) (x : Nat), x < t.length → (setT t w n).getD x false = (t.getD x false || (decide (w ≤ x) && decide (x < w + n))) := by
  intro n
  induction n with
  | zero =>
    intro w t x hx
    have : (decide (w ≤ x) && decide (x < w + 0)) = false := by
      rw [Bool.eq_false_iff]; simp only [ne_eq, Bool.and_eq_true, decide_eq_true_eq]; omega
    simp only [setT, this, Bool.or_false]
  | succ n ih =>
    intro w t x hx
    simp only [setT]
    rw [ih (w + 1) _ x (by simpa using hx)]
    by_cases e : x = w
    · subst e
      have h1 : (t.set x true).getD x false = true := by
        rw [List.getD_eq_getElem?_getD, List.getElem?_set_self hx]; rfl
      rw [h1]
      simp
    · have h1 : (t.set w true).getD x false = t.getD x false := by
        simp only [List.getD_eq_getElem?_getD, List.getElem?_set_ne (show w ≠ x from fun h => e h.symm)]
      have h2 : (decide (w + 1 ≤ x) && decide (x < w + 1 + n)) = (decide (w ≤ x) && decide (x < w + (n + 1))) := by
        rw [Bool.eq_iff_iff]; simp only [Bool.and_eq_true, decide_eq_true_eq]; omega
      rw [h1, h2]

theorem list_l1 {p : List Int} (s0 : (List Int) → Int → Int → (List Bool) → (List (ByteArray × (ByteArray × Unit))) → Option ((List (ByteArray × (ByteArray × Unit))) × Bool)) (c : Int) (i : Nat) (l : List (ByteArray × (ByteArray × Unit))) (a m k v : Int) (e : Nat) (he : e ≤ 128) (hi : i ≤ 1000) (hl : l.length ≤ 1000) (key val : ByteArray) :
    ∀ (d n N w : Nat) (t : List Bool), t.length = 128 → w + d = e → d < n →
    m_slot_list_l1 N s0 n p w c i l t a m e k v key val = if anyT t w d = true then some ([], false) else s0 p c ((i + 1 : Nat) : Int) (setT t w d) (l ++ [(key, (val, ()))]) := by
  intro d
  induction d with
  | zero =>
    intro n N w t ht hw hn
    obtain ⟨n, rfl⟩ : ∃ q, n = q + 1 := ⟨n - 1, by omega⟩
    have hf : fits (List.length l + 1) 32 := by unfold fits; omega
    simp only [m_slot_list_l1, m_slot_list_l1_b, anyT, setT, Bool.false_eq_true, if_false]
    rw [wI (x := (i : Int) + 1) (by omega) (by omega)]
    simp [show ¬ ((w : Int) < e) by omega, hf]
  | succ d ih =>
    intro n N w t ht hw hn
    obtain ⟨n, rfl⟩ : ∃ q, n = q + 1 := ⟨n - 1, by omega⟩
    have := ih n N (w + 1) (t.set w true) (by simpa using ht) (by omega) (by omega)
    have hr : rd .bool t (w : Int) = t.getD w false := by unfold rd; simp; rfl
    simp only [m_slot_list_l1, m_slot_list_l1_b, anyT, setT, hr]
    rw [wI (x := (w : Int) + 1) (by omega) (by omega)]
    simp only [show ((w : Int) < e) by omega, decide_true, if_true, Int.natCast_nonneg, show (w : Int) < 128 by omega, Int.toNat_natCast]
    by_cases hx : t.getD w false = true
    · simp only [hx, if_true, Bool.true_or]
    · have hx' : t.getD w false = false := by simpa using hx
      simp only [hx', Bool.false_eq_true, if_false, Bool.false_or]
      rw [anyT_set d (w + 1) (by omega)] at this
      exact_mod_cast this

/-- the words of the first slots are taken -/
def TK (p : List Int) (i : Nat) (t : List Bool) : Prop := t.length = 128 ∧ ∀ x : Nat, x < 128 → (t.getD x false = true ↔ ∃ j : Nat, j < i ∧ atS (sw p j) ≤ x ∧ (x : Int) < endS (sw p j))

theorem TK.zero (p : List Int) : TK p 0 (List.replicate 128 false) := by
  refine ⟨by simp, fun x hx => ?_⟩
  have : (List.replicate 128 false).getD x false = false := by
    rw [List.getD_eq_getElem?_getD, List.getElem?_replicate]; split <;> rfl
  rw [this]
  simp
theorem TK.succ {p : List Int} {i : Nat} {t : List Bool} (h : TK p i t) (hs : Sized p i) : TK p (i + 1) (setT t (atS (sw p i)).toNat (endS (sw p i) - atS (sw p i)).toNat) := by
  have h1 := hs.at0
  have h2 := hs.some
  refine ⟨by rw [setT_length]; exact h.1, fun x hx => ?_⟩
  rw [setT_getD _ _ _ _ (by rw [h.1]; exact hx), Bool.or_eq_true, h.2 x hx, Bool.and_eq_true, decide_eq_true_eq, decide_eq_true_eq]
  constructor
  · rintro (⟨j, g1, g2, g3⟩ | ⟨g1, g2⟩)
    · exact ⟨j, by omega, g2, g3⟩
    · exact ⟨i, by omega, by omega, by omega⟩
  · rintro ⟨j, g1, g2, g3⟩
    by_cases e : j = i
    · subst e; exact .inr ⟨by omega, by omega⟩
    · exact .inl ⟨j, by omega, g2, g3⟩

theorem anyO_iff {p : List Int} {i : Nat} : ∀ (m k : Nat), anyO p i k m = true ↔ ∃ j : Nat, k ≤ j ∧ j < k + m ∧ overB p i j = true := by
  intro m
  induction m with
  | zero => intro k; simp only [anyO, Bool.false_eq_true, false_iff]; rintro ⟨x, h1, h2, _⟩; omega
  | succ n ih =>
    intro w
    simp only [anyO, Bool.or_eq_true, ih]
    constructor
    · rintro (h | ⟨x, h1, h2, h3⟩)
      · exact ⟨w, by omega, by omega, h⟩
      · exact ⟨x, by omega, by omega, h3⟩
    · rintro ⟨x, h1, h2, h3⟩
      by_cases e : x = w
      · subst e; exact .inl h3
      · exact .inr ⟨x, by omega, by omega, h3⟩

theorem taken_over {p : List Int} {i : Nat} {t : List Bool} (h : TK p i t) (hs : Sized p i) (hj : ∀ j : Nat, j < i → Sized p j) : anyT t (atS (sw p i)).toNat (endS (sw p i) - atS (sw p i)).toNat = anyO p i 0 i := by
  have h1 := hs.at0
  have h2 := hs.some
  have h3 := hs.end1
  rw [Bool.eq_iff_iff, anyT_iff, anyO_iff]
  constructor
  · rintro ⟨x, g1, g2, g3⟩
    obtain ⟨j, k1, k2, k3⟩ := (h.2 x (by omega)).1 g3
    refine ⟨j, by omega, by omega, ?_⟩
    simp only [overB, Bool.and_eq_true, decide_eq_true_eq]; omega
  · rintro ⟨j, g1, g2, g3⟩
    have hjs := hj j (by omega)
    have j1 := hjs.some
    have j0 := hjs.at0
    simp only [overB, Bool.and_eq_true, decide_eq_true_eq] at g3
    by_cases c : atS (sw p j) ≤ atS (sw p i)
    · exact ⟨(atS (sw p i)).toNat, by omega, by omega, (h.2 _ (by omega)).2 ⟨j, by omega, by omega, by omega⟩⟩
    · exact ⟨(atS (sw p j)).toNat, by omega, by omega, (h.2 _ (by omega)).2 ⟨j, by omega, by omega, by omega⟩⟩

theorem list_l0 {p : List Int} (hp : PageOK p) {c : Nat} (hc : c ≤ 108) : ∀ (m n N i : Nat) (t : List Bool), 100000 < N → i + m = c → m < n → TK p i t → (∀ j : Nat, j < i → Sized p j) →
    m_slot_list_l0 N n p c i t (pairsTo p i) = if validFrom p i m = true then some (pairsTo p c, true) else some ([], false) := by
  intro m
  induction m with
  | zero =>
    intro n N i t hN hm hn ht hj
    obtain ⟨n, rfl⟩ : ∃ q, n = q + 1 := ⟨n - 1, by omega⟩
    obtain rfl : i = c := by omega
    simp only [m_slot_list_l0, m_slot_list_l0_b, validFrom, Int.lt_irrefl, decide_false, Bool.false_eq_true, if_false, if_true]
  | succ m ih =>
    intro n N i t hN hm hn ht hj
    obtain ⟨n, rfl⟩ : ∃ q, n = q + 1 := ⟨n - 1, by omega⟩
    simp only [m_slot_list_l0, m_slot_list_l0_b, validFrom, rd_G]
    rw [wI (x := 20 + (i : Int)) (by omega) (by omega), slot_sized hp (i := (i : Int)) (by omega) (by omega)]
    simp only [show (i : Int) < c by omega, decide_true, if_true, Option.bind_some]
    cases hsz : sizedB p i with
    | false => simp [slotB, goodB, hsz]
    | true =>
      have hs := sized_spec hp hsz
      have hw := hp.2.G (20 + i)
      have hT := slot_text hp hs
      have hE : m_slot_entryOf (sw p i) = some (atS (sw p i), midS (sw p i), endS (sw p i), keyS (sw p i), valS (sw p i), ()) := slot_entryOf hw.1 hw.2
      have e20 : G p (20 + (i : Int)) = sw p i := rfl
      rw [e20, hE]
      have m2 := hs.mid2
      have a0 := hs.at0
      have m0 := hs.mid0
      have m1 := hs.mid1
      have e1 := hs.end1
      have s1 := hs.some
      simp only [Bool.not_true, Bool.false_eq_true, if_false, show (0 : Int) ≤ 20 + (i : Int) by omega, show 20 + (i : Int) < 128 by omega, if_true, Option.bind_some, hT]
      have L1 : ∀ (key val : ByteArray), m_slot_list_l1 N (m_slot_list_l0 N n) N p (atS (sw p i)) c i (pairsTo p i) t (atS (sw p i)) (midS (sw p i)) (endS (sw p i)) (keyS (sw p i)) (valS (sw p i)) key val =
          if anyO p i 0 i = true then some ([], false) else m_slot_list_l0 N n p c ((i + 1 : Nat) : Int) (setT t (atS (sw p i)).toNat (endS (sw p i) - atS (sw p i)).toNat) (pairsTo p i ++ [(key, (val, ()))]) := by
        intro key val
        have := list_l1 (p := p) (m_slot_list_l0 N n) c i (pairsTo p i) (atS (sw p i)) (midS (sw p i)) (keyS (sw p i)) (valS (sw p i)) (endS (sw p i)).toNat (by omega) (by omega) (by rw [pairsTo_length]; omega) key val (endS (sw p i) - atS (sw p i)).toNat N N (atS (sw p i)).toNat t ht.1 (by omega) (by omega)
        rw [show (((endS (sw p i)).toNat : Nat) : Int) = endS (sw p i) by omega, show (((atS (sw p i)).toNat : Nat) : Int) = atS (sw p i) by omega, taken_over ht hs hj] at this
        exact this
      cases hk : keyOf p i with
      | none => simp [slotB, goodB, textB, hk]
      | some key =>
        cases hv : valOf p i with
        | none => simp [slotB, goodB, textB, hk, hv]
        | some val =>
          have hpo : pairOf p i = (key, (val, ())) := by simp [pairOf, hk, hv]
          have fin : (if anyO p i 0 i = true then some ([], false) else m_slot_list_l0 N n p c ((i + 1 : Nat) : Int) (setT t (atS (sw p i)).toNat (endS (sw p i) - atS (sw p i)).toNat) (pairsTo p i ++ [(key, (val, ()))])) =
              if (!anyO p i 0 i && validFrom p (i + 1) m) = true then some (pairsTo p c, true) else some ([], false) := by
            cases anyO p i 0 i with
            | true => rfl
            | false =>
              simp only [Bool.false_eq_true, if_false, Bool.not_false, Bool.true_and]
              rw [← hpo, ← pairsTo_succ]
              exact ih n N (i + 1) _ hN (by omega) (by omega) (ht.succ hs) fun j hj' => by
                by_cases e : j = i
                · subst e; exact hs
                · exact hj j (by omega)
          simp only [bne_self_eq_false, Bool.false_eq_true, if_false, L1, fin]
          by_cases c1 : G p 8 > 1
          · have hm2 := m2 (by omega)
            by_cases c2 : G p (midS (sw p i)) < 1
            · simp [c1, c2, slotB, goodB, textB, hk, hv, childB, hsz, show (0 : Int) ≤ midS (sw p i) by omega, hm2, show ¬ 1 ≤ G p (midS (sw p i)) by omega]
            · by_cases c3 : G p (midS (sw p i)) > 511
              · simp [c1, c2, c3, slotB, goodB, textB, hk, hv, childB, hsz, show (0 : Int) ≤ midS (sw p i) by omega, hm2, show ¬ G p (midS (sw p i)) ≤ 511 by omega]
              · simp [c1, c2, c3, slotB, goodB, textB, hk, hv, childB, hsz, show (0 : Int) ≤ midS (sw p i) by omega, hm2, show 1 ≤ G p (midS (sw p i)) by omega, show G p (midS (sw p i)) ≤ 511 by omega]
          · simp [c1, slotB, goodB, textB, hk, hv, childB, hsz]

/-- all keys and values of a page, or that it is none -/
theorem slot_list {p : List Int} (hp : PageOK p) : m_slot_list p = some (if validB p = true then (pairsS p, true) else ([], false)) := by
  unfold m_slot_list m_slot_list_a validB
  rw [slot_head hp]
  cases hh : headB p with
  | false => rfl
  | true =>
    have h9 := hp.2.G 9
    have hc : G p 9 ≤ 108 := by
      simp only [headB, Bool.and_eq_true, decide_eq_true_eq] at hh; omega
    simp (disch := omega) only [Option.bind_some, Bool.not_true, Bool.false_eq_true, if_false, rd_G, wI, Bool.true_and]
    have := list_l0 hp (c := count p) (by unfold count; omega) (count p) FUEL FUEL 0 _ (by have := FUEL_big; omega) (by omega) (by have := FUEL_big; unfold count; omega) (TK.zero p) (fun j hj => by omega)
    rw [show ((count p : Nat) : Int) = G p 9 by unfold count; omega] at this
    refine (by exact_mod_cast this : _ = _).trans ?_
    unfold pairsS
    split <;> rfl
end Go.Ev.L

/- The slots of a page: what the reference computes. -/
set_option linter.unusedVariables false
set_option linter.unusedSimpArgs false
namespace Go.Ev.L
open Go Go.Ev Go.Ev.M

end Go.Ev.L

/- What the other functions of a page answer; that the program's answers are the reference's. -/
set_option linter.unusedVariables false
set_option linter.unusedSimpArgs false
namespace Go.Ev.L
open Go Go.Ev Go.Ev.M

abbrev Pr := ByteArray × (ByteArray × Unit)
abbrev eB : ByteArray := ⟨#[]⟩

def GP (l : List Pr) (i : Int) : Pr := l.getD i.toNat (eB, (eB, ()))
theorem rd_GP (l : List Pr) (i : Int) : rd (.pair .str (.pair .str .nl)) l i = GP l i := rfl
theorem GP_get {l : List Pr} {i : Nat} (h : i < l.length) : GP l (i : Int) = l[i] := by
  unfold GP; rw [show (i : Int).toNat = i by omega, List.getD_eq_getElem?_getD, List.getElem?_eq_getElem h]; rfl
theorem G_get {l : List Int} {i : Nat} (h : i < l.length) : G l (i : Int) = l[i] := by
  unfold G; rw [show (i : Int).toNat = i by omega, List.getD_eq_getElem?_getD, List.getElem?_eq_getElem h]; rfl

def costS (x : Pr) : Int := 1 + W x.1.size + W x.2.1.size
theorem costS_range {x : Pr} (h : x.1.size ≤ 1000 ∧ x.2.1.size ≤ 1000) : 1 ≤ costS x ∧ costS x ≤ 1000 := by
  have h1 := W_le (n := (x.1.size : Int)) (by omega)
  have h2 := W_le (n := (x.2.1.size : Int)) (by omega)
  have h3 := W_nonneg (x.1.size : Int)
  have h4 := W_nonneg (x.2.1.size : Int)
  unfold costS; omega
theorem ref_Cost {x : Pr} (ha : x.1.size ≤ 100000) (hb : x.2.1.size ≤ 100000) : m_ticketlineref14_Cost x = some (costS x) := by
  have h1 := W_le (n := (x.1.size : Int)) (by omega)
  have h2 := W_le (n := (x.2.1.size : Int)) (by omega)
  unfold m_ticketlineref14_Cost costS
  rw [ref14_Words (by omega) (by omega), ref14_Words (by omega) (by omega)]
  simp (disch := omega) only [Option.bind_some, wI]

theorem head_spec {p : List Int} (h : headB p = true) : 1 ≤ G p 8 ∧ G p 8 ≤ 6 ∧ G p 9 ≤ 108 ∧ G p 10 ≤ 511 ∧ 20 + G p 9 ≤ G p 11 ∧ G p 11 ≤ 128 ∧ (fenceS p 12).isSome = true ∧ (fenceS p 16).isSome = true := by
  simp only [headB, Bool.and_eq_true, decide_eq_true_eq] at h
  obtain ⟨⟨⟨⟨⟨⟨⟨h1, h2⟩, h3⟩, h4⟩, h5⟩, h6⟩, h7⟩, h8⟩ := h
  exact ⟨h1, h2, h3, h4, h5, h6, h7, h8⟩
theorem valid_head {p : List Int} (h : validB p = true) : headB p = true := by
  simp only [validB, Bool.and_eq_true] at h; exact h.1
theorem slot_Valid {p : List Int} (hp : PageOK p) : m_slot_Valid p = some (validB p) := by
  unfold m_slot_Valid; rw [slot_list hp]; cases validB p <;> rfl
end Go.Ev.L

/- Law 14: the answers for any page are the reference's. -/
set_option linter.unusedVariables false
set_option linter.unusedSimpArgs false
namespace Go.Ev.L
open Go Go.Ev Go.Ev.M

theorem PageOK.set {p : List Int} (h : PageOK p) (i : Nat) {x : Int} (h0 : 0 ≤ x) (h1 : x < 18446744073709551616) : PageOK (p.set i x) := by
  refine ⟨by simpa using h.1, fun y hy => ?_⟩
  rcases List.mem_or_eq_of_mem_set hy with hy | rfl
  · exact h.2 y hy
  · exact ⟨h0, h1⟩
theorem page_zero : PageOK (List.replicate 128 0) := ⟨by simp, fun x hx => by rw [List.mem_replicate] at hx; omega⟩

end Go.Ev.L

/- Packing; empty pages. -/
set_option linter.unusedVariables false
set_option linter.unusedSimpArgs false
namespace Go.Ev.L
open Go Go.Ev Go.Ev.M

/-- a byte of a string, 0 behind its end -/
def B (s : ByteArray) (j : Nat) : Int := ((s.data.toList.getD j 0).toNat : Int)
theorem bt_B (s : ByteArray) (i : Int) : bt s i = B s i.toNat := rfl
theorem B_range (s : ByteArray) (j : Nat) : 0 ≤ B s j ∧ B s j < 256 := by
  have := (s.data.toList.getD j 0).toNat_lt
  unfold B; omega
theorem B_out {s : ByteArray} {j : Nat} (h : s.size ≤ j) : B s j = 0 := by
  have : s.data.toList.length ≤ j := by simpa using h
  unfold B; rw [List.getD_eq_getElem?_getD, List.getElem?_eq_none this]; rfl

/-- the first k bytes of a word -/
def part (s : ByteArray) (j : Nat) : Nat → Int
  | 0 => 0
  | k + 1 => 256 * part s j k + B s (8 * j + k)
theorem part_range (s : ByteArray) (j : Nat) : ∀ k, 0 ≤ part s j k ∧ part s j k < 256 ^ k := by
  intro k
  induction k with
  | zero => simp [part]
  | succ k ih =>
    have hb := B_range s (8 * j + k)
    show 0 ≤ 256 * part s j k + B s (8 * j + k) ∧ 256 * part s j k + B s (8 * j + k) < 256 ^ (k + 1)
    rw [Int.pow_succ]
    omega
theorem part_lt {s : ByteArray} {j k : Nat} (h : k ≤ 7) : 0 ≤ part s j k ∧ part s j k < 72057594037927936 := by
  have h1 := part_range s j k
  have h2 : (256 : Int) ^ k ≤ 256 ^ 7 := by
    rcases (by omega : k = 0 ∨ k = 1 ∨ k = 2 ∨ k = 3 ∨ k = 4 ∨ k = 5 ∨ k = 6 ∨ k = 7) with rfl | rfl | rfl | rfl | rfl | rfl | rfl | rfl <;> decide
  have h3 : (256 : Int) ^ 7 = 72057594037927936 := by decide
  omega
def packS (s : ByteArray) : List Int := (List.range (W s.size).toNat).map fun j => part s j 8
theorem packS_length (s : ByteArray) : (packS s).length = (W s.size).toNat := by simp [packS]
theorem packS_u64 (s : ByteArray) : U64 (packS s) := by
  intro x hx
  obtain ⟨j, _, rfl⟩ := List.mem_map.1 hx
  have := part_range s j 8
  have h3 : (256 : Int) ^ 8 = 18446744073709551616 := by decide
  omega

theorem refPack_l0 {s : ByteArray} (hs : s.size ≤ 100000) : ∀ (m n N i : Nat), i + m = 8 * (W s.size).toNat → m < n →
    m_ticketlineref14_Pack_l0 N n s i ((List.range (W s.size).toNat).map fun j => part s j (min 8 (i - 8 * j))) = some (packS s) := by
  have hW := W_le (n := (s.size : Int)) (by omega)
  intro m
  induction m with
  | zero =>
    intro n N i hm hn
    obtain ⟨n, rfl⟩ : ∃ q, n = q + 1 := ⟨n - 1, by omega⟩
    have hl : ((List.range (W s.size).toNat).map fun j => part s j (min 8 (i - 8 * j))) = packS s := by
      refine List.map_congr_left fun j hj => ?_
      rw [List.mem_range] at hj
      rw [Nat.min_eq_left (by omega)]
    rw [hl]
    have w1 : IntKind.i64.wrap (8 * ((packS s).length : Int)) = 8 * (packS s).length := wI (by rw [packS_length]; omega) (by rw [packS_length]; omega)
    have hc : ¬ (i : Int) < 8 * ((packS s).length : Int) := by rw [packS_length]; omega
    simp only [m_ticketlineref14_Pack_l0, m_ticketlineref14_Pack_l0_b, w1, hc, decide_false, Bool.false_eq_true, if_false]
  | succ m ih =>
    intro n N i hm hn
    obtain ⟨n, rfl⟩ : ∃ q, n = q + 1 := ⟨n - 1, by omega⟩
    have IH := ih n N (i + 1) (by omega) (by omega)
    generalize hl : ((List.range (W s.size).toNat).map fun j => part s j (min 8 (i - 8 * j))) = out
    have hlen : out.length = (W s.size).toNat := by rw [← hl]; simp
    have hi8 : i / 8 < (W s.size).toNat := by omega
    have hg : G out ((i / 8 : Nat) : Int) = part s (i / 8) (i % 8) := by
      rw [G_get (by omega)]
      subst hl
      rw [List.getElem_map, List.getElem_range, show min 8 (i - 8 * (i / 8)) = i % 8 by omega]
    have hset : out.set (i / 8) (256 * part s (i / 8) (i % 8) + B s i) = (List.range (W s.size).toNat).map fun j => part s j (min 8 (i + 1 - 8 * j)) := by
      refine List.ext_getElem (by simp [hlen]) fun j h1 h2 => ?_
      have hj : j < (W s.size).toNat := by simpa using h2
      rw [List.getElem_map, List.getElem_range, List.getElem_set]
      by_cases e : i / 8 = j
      · subst e
        rw [if_pos rfl, show min 8 (i + 1 - 8 * (i / 8)) = i % 8 + 1 by omega]
        show _ = 256 * part s (i / 8) (i % 8) + B s (8 * (i / 8) + i % 8)
        rw [show 8 * (i / 8) + i % 8 = i by omega]
      · rw [if_neg e]
        subst hl
        rw [List.getElem_map, List.getElem_range]
        congr 1; omega
    have hp := part_lt (s := s) (j := i / 8) (k := i % 8) (by omega)
    have hb := B_range s i
    have w1 : IntKind.i64.wrap (8 * (out.length : Int)) = 8 * out.length := wI (by omega) (by omega)
    have w2 : IntKind.i64.wrap ((i : Int) + 1) = ((i + 1 : Nat) : Int) := by rw [wI (by omega) (by omega)]; omega
    have w3 : IntKind.i64.wrap (Int.tdiv (i : Int) 8) = ((i / 8 : Nat) : Int) := by rw [td8 (by omega), wI (by omega) (by omega)]; omega
    have w4 : IntKind.u64.wrap (256 * part s (i / 8) (i % 8)) = 256 * part s (i / 8) (i % 8) := wU (by omega) (by omega)
    have w5 : IntKind.u64.wrap (bt s i) = B s i := by rw [bt_B, Int.toNat_natCast, wU (by omega) (by omega)]
    have w6 : IntKind.u64.wrap (256 * part s (i / 8) (i % 8) + B s i) = 256 * part s (i / 8) (i % 8) + B s i := wU (by omega) (by omega)
    have c1 : (i : Int) < 8 * (out.length : Int) := by omega
    have c2 : ((i / 8 : Nat) : Int) < (out.length : Int) := by omega
    simp only [m_ticketlineref14_Pack_l0, m_ticketlineref14_Pack_l0_b, w1, w2, w3, c1, c2, decide_true, if_true, Int.natCast_nonneg, rd_G, hg, w4, w5, w6, Int.toNat_natCast]
    by_cases hc : (i : Int) < (s.size : Int)
    · simp only [hc, decide_true, if_true, hset, IH]
    · have hz : B s i = 0 := B_out (by omega)
      rw [hz, Int.add_zero] at hset w6
      simp only [hc, decide_false, Bool.false_eq_true, if_false, Int.add_zero, w4, hset, IH]

theorem ref_Pack {s : ByteArray} (hs : s.size ≤ 100000) : m_ticketlineref14_Pack s = some (packS s) := by
  unfold m_ticketlineref14_Pack m_ticketlineref14_Pack_a
  have hW := W_le (n := (s.size : Int)) (by omega)
  have h0 := W_nonneg (s.size : Int)
  rw [ref14_Words (by omega) (by omega)]
  have hf : fits (W s.size).toNat 8 := by unfold fits; omega
  have := refPack_l0 hs (8 * (W s.size).toNat) FUEL FUEL 0 (by omega) (by have := FUEL_big; omega)
  have hr : ((List.range (W s.size).toNat).map fun j => part s j (min 8 (0 - 8 * j))) = List.replicate (W s.size).toNat 0 := by
    refine List.ext_getElem (by simp) fun j h1 h2 => ?_
    rw [List.getElem_map, List.getElem_range, List.getElem_replicate, show min 8 (0 - 8 * j) = 0 by omega]; rfl
  rw [hr] at this
  simp only [Option.bind_some, h0, Int.le_refl, if_true, hf]
  exact this

theorem splice_get {α : Type} (xs ys : List α) {off : Int} (h0 : 0 ≤ off) (h : off.toNat + ys.length ≤ xs.length) (i : Nat) : (splice xs off ys)[i]? = if i < off.toNat then xs[i]? else if i < off.toNat + ys.length then ys[i - off.toNat]? else xs[i]? := by
  unfold splice
  have hl : (xs.take off.toNat).length = off.toNat := by simp; omega
  by_cases h1 : i < off.toNat
  · rw [if_pos h1, List.append_assoc, List.getElem?_append_left (by omega), List.getElem?_take, if_pos h1]
  · rw [if_neg h1]
    by_cases h2 : i < off.toNat + ys.length
    · rw [if_pos h2, List.append_assoc, List.getElem?_append_right (by omega), hl, List.getElem?_append_left (by omega)]
    · rw [if_neg h2, List.getElem?_append_right (by simp [hl]; omega), List.getElem?_drop]
      congr 1; simp [hl]; omega
theorem splice_length {α : Type} (xs ys : List α) {off : Int} (h0 : 0 ≤ off) (h : off.toNat + ys.length ≤ xs.length) : (splice xs off ys).length = xs.length := by
  unfold splice; simp; omega
theorem splice_page {p : List Int} (hp : PageOK p) {off : Int} {l : List Int} (h0 : 0 ≤ off) (h : off.toNat + l.length ≤ 128) (hl : U64 l) : PageOK (splice p off l) := by
  refine ⟨by rw [splice_length _ _ h0 (by rw [hp.1]; exact h)]; exact hp.1, fun x hx => ?_⟩
  unfold splice at hx
  simp only [List.mem_append] at hx
  rcases hx with (hx | hx) | hx
  · exact hp.2 x (List.mem_of_mem_take hx)
  · exact hl x hx
  · exact hp.2 x (List.mem_of_mem_drop hx)
theorem G_splice {p l : List Int} {off : Int} (h0 : 0 ≤ off) (h : off.toNat + l.length ≤ p.length) (i : Int) (hi : 0 ≤ i) : G (splice p off l) i = if off ≤ i ∧ i < off + l.length then G l (i - off) else G p i := by
  unfold G
  simp only [List.getD_eq_getElem?_getD, splice_get p l h0 h]
  by_cases c1 : i.toNat < off.toNat
  · rw [if_pos c1, if_neg (by omega)]
  · rw [if_neg c1]
    by_cases c2 : i.toNat < off.toNat + l.length
    · rw [if_pos c2, if_pos (by omega), show (i - off).toNat = i.toNat - off.toNat by omega]
    · rw [if_neg c2, if_neg (by omega)]
theorem G_set {p : List Int} {i : Nat} {x : Int} (h : i < p.length) (j : Int) (hj : 0 ≤ j) : G (p.set i x) j = if j = i then x else G p j := by
  unfold G
  simp only [List.getD_eq_getElem?_getD, List.getElem?_set]
  by_cases c : j = i
  · rw [if_pos c, if_pos (by omega), if_pos h]; rfl
  · rw [if_neg c, if_neg (by omega)]

theorem put_l0 (at' : Int) (h0 : 0 ≤ at') (l : List Int) : ∀ (m n N i : Nat) (p : List Int), i + m = l.length → m < n → p.length = 128 → at' + l.length ≤ 128 →
    m_ticketlineref14_put_l0 N n at' l i p = some (splice p (at' + i) (l.drop i)) := by
  intro m
  induction m with
  | zero =>
    intro n N i p hm hn hp ha
    obtain ⟨n, rfl⟩ : ∃ q, n = q + 1 := ⟨n - 1, by omega⟩
    obtain rfl : i = l.length := by omega
    simp [m_ticketlineref14_put_l0, m_ticketlineref14_put_l0_b, splice]
  | succ m ih =>
    intro n N i p hm hn hp ha
    obtain ⟨n, rfl⟩ : ∃ q, n = q + 1 := ⟨n - 1, by omega⟩
    have hi : i < l.length := by omega
    have IH := ih n N (i + 1) (p.set (at' + i).toNat (G l i)) (by omega) (by omega) (by simpa using hp) ha
    have w2 : IntKind.i64.wrap ((i : Int) + 1) = ((i + 1 : Nat) : Int) := by rw [wI (by omega) (by omega)]; omega
    have w3 : IntKind.i64.wrap (at' + (i : Int)) = at' + i := wI (by omega) (by omega)
    simp only [m_ticketlineref14_put_l0, m_ticketlineref14_put_l0_b, rd_G, w2, w3, show (i : Int) < (l.length : Int) by omega, decide_true, if_true, Int.natCast_nonneg, show (0 : Int) ≤ at' + i by omega, show at' + (i : Int) < 128 by omega, IH]
    rw [G_get hi, List.drop_eq_getElem_cons hi]
    congr 1
    refine List.ext_getElem? fun j => ?_
    rw [splice_get _ _ (by omega) (by simp; omega), splice_get _ _ (by omega) (by simp; omega)]
    simp only [List.length_cons, List.length_drop]
    by_cases c1 : j < (at' + i).toNat
    · rw [if_pos (show j < (at' + ((i + 1 : Nat) : Int)).toNat by omega), if_pos c1, List.getElem?_set_ne (by omega)]
    · by_cases c2 : j = (at' + i).toNat
      · subst c2
        rw [if_pos (show (at' + (i : Int)).toNat < (at' + ((i + 1 : Nat) : Int)).toNat by omega), if_neg (show ¬ (at' + (i : Int)).toNat < (at' + (i : Int)).toNat by omega), if_pos (show (at' + (i : Int)).toNat < (at' + (i : Int)).toNat + (l.length - (i + 1) + 1) by omega), List.getElem?_set_self (by omega), Nat.sub_self]; rfl
      · rw [if_neg (show ¬ j < (at' + ((i + 1 : Nat) : Int)).toNat by omega), if_neg c1]
        by_cases c3 : j < (at' + i).toNat + (l.length - (i + 1) + 1)
        · rw [if_pos (show j < (at' + ((i + 1 : Nat) : Int)).toNat + (l.length - (i + 1)) by omega), if_pos c3, show j - (at' + (i : Int)).toNat = (j - (at' + ((i + 1 : Nat) : Int)).toNat) + 1 by omega, List.getElem?_cons_succ]
        · rw [if_neg (show ¬ j < (at' + ((i + 1 : Nat) : Int)).toNat + (l.length - (i + 1)) by omega), if_neg c3, List.getElem?_set_ne (by omega)]
theorem ref_put {p l : List Int} (hp : p.length = 128) {at' : Int} (h0 : 0 ≤ at') (h : at' + l.length ≤ 128) : m_ticketlineref14_put p at' l = some (splice p at' l) := by
  unfold m_ticketlineref14_put m_ticketlineref14_put_a
  have := put_l0 at' h0 l l.length FUEL FUEL 0 p (by omega) (by have := FUEL_big; omega) hp h
  simpa using this

/-- the empty page -/
def emptyS (level : Int) (low high : ByteArray) : List Int :=
  splice (splice (((((List.replicate 128 0).set 8 (1 + level)).set 11 128).set 12 low.size).set 16 high.size) 13 (packS low)) 17 (packS high)
theorem packS_len3 {s : ByteArray} (h : s.size ≤ 24) : (packS s).length ≤ 3 := by
  have := W_le (n := (s.size : Int)) (by omega)
  rw [packS_length]; omega
theorem ref_Empty {level : Int} {low high : ByteArray} (h0 : -1 ≤ level) (h1 : level ≤ 1000) (hl : low.size ≤ 24) (hh : high.size ≤ 24) : m_ticketlineref14_Empty level low high = some (emptyS level low high) := by
  unfold m_ticketlineref14_Empty emptyS
  have p1 := packS_len3 hl
  have p2 := packS_len3 hh
  have w1 : IntKind.u64.wrap (IntKind.i64.wrap (1 + level)) = 1 + level := by rw [wI (by omega) (by omega), wU (by omega) (by omega)]
  have w2 : IntKind.u64.wrap (low.size : Int) = low.size := wU (by omega) (by omega)
  have w3 : IntKind.u64.wrap (high.size : Int) = high.size := wU (by omega) (by omega)
  rw [ref_Pack (by omega), ref_Pack (by omega), w1, w2, w3]
  simp only [Option.bind_some]
  rw [ref_put (by simp) (by omega) (by omega)]
  simp only [Option.bind_some]
  rw [ref_put (by rw [splice_length _ _ (by omega) (by simp; omega)]; simp) (by omega) (by omega)]
  rfl
theorem empty_page {level : Int} {low high : ByteArray} (h0 : -1 ≤ level) (h1 : level ≤ 1000) (hl : low.size ≤ 24) (hh : high.size ≤ 24) : PageOK (emptyS level low high) := by
  have p1 := packS_len3 hl
  have p2 := packS_len3 hh
  unfold emptyS
  refine splice_page (splice_page ?_ (by omega) (by omega) (packS_u64 _)) (by omega) (by omega) (packS_u64 _)
  exact (((page_zero.set 8 (by omega) (by omega)).set 11 (by omega) (by omega)).set 12 (by omega) (by omega)).set 16 (by omega) (by omega)
end Go.Ev.L

/- The page of a plan; law 14's pages and swaps. -/
set_option linter.unusedVariables false
set_option linter.unusedSimpArgs false
namespace Go.Ev.L
open Go Go.Ev Go.Ev.M

abbrev Sp := Int × (Int × Unit)
abbrev Pln := Int × (Int × (ByteArray × (ByteArray × ((List Pr) × ((List Int) × ((List Sp) × Unit))))))
def GS (l : List Sp) (i : Int) : Sp := l.getD i.toNat (0, (0, ()))
theorem rd_GS (l : List Sp) (i : Int) : rd (.pair (.int .u8) (.pair (.int .u64) .nl)) l i = GS l i := rfl
def U8 (l : List Int) : Prop := ∀ x, x ∈ l → 0 ≤ x ∧ x < 256
theorem U8.G {l : List Int} (h : U8 l) (i : Int) : 0 ≤ G l i ∧ G l i < 256 := by
  unfold L.G
  rw [List.getD_eq_getElem?_getD]
  cases e : l[i.toNat]? with
  | none => simp
  | some x => exact h x (List.mem_of_getElem? e)
def SpOK (l : List Sp) : Prop := ∀ x, x ∈ l → 0 ≤ x.1 ∧ x.1 < 256 ∧ 0 ≤ x.2.1 ∧ x.2.1 < 18446744073709551616
theorem SpOK.G {l : List Sp} (h : SpOK l) (i : Int) : 0 ≤ (GS l i).1 ∧ (GS l i).1 < 256 ∧ 0 ≤ (GS l i).2.1 ∧ (GS l i).2.1 < 18446744073709551616 := by
  unfold GS
  rw [List.getD_eq_getElem?_getD]
  cases e : l[i.toNat]? with
  | none => simp
  | some x => exact h x (List.mem_of_getElem? e)
/-- a plan whose numbers are within their kinds -/
structure PlnOK (x : Pln) : Prop where
  gaps : U8 x.2.2.2.2.2.1
  spoils : SpOK x.2.2.2.2.2.2.1
  next : x.2.1 < 9223372036854775808

/-- a page, and whether it is the plan's -/
def PRes (l : List Pr) (r : Option (List Int × Bool)) : Prop := ∃ p b, r = some (p, b) ∧ PageOK p ∧ (b = true → l.length ≤ 60 ∧ ∀ x, x ∈ l → x.1.size ≤ 60 ∧ x.2.1.size ≤ 60)
theorem PRes.zero (l : List Pr) : PRes l (some (List.replicate 128 0, false)) := ⟨_, _, rfl, page_zero, fun h => by cases h⟩

theorem u64_mod (x : Int) : 0 ≤ x % 18446744073709551616 ∧ x % 18446744073709551616 < 18446744073709551616 := by omega

theorem plan_l3 {l : List Pr} (hl : l.length ≤ 60 ∧ ∀ x, x ∈ l → x.1.size ≤ 60 ∧ x.2.1.size ≤ 60) (a b : Int) (lo hi : ByteArray) (gaps : List Int) (sp : List Sp) (hsp : SpOK sp) (z : List Int) : ∀ (m n N i : Nat) (p : List Int), i + m = 10 → m < n → PageOK p →
    PRes l (m_ticketlineref14_Plan_Page_l3 N n i a b lo hi l gaps sp z p) := by
  intro m
  induction m with
  | zero =>
    intro n N i p hm hn hp
    obtain ⟨n, rfl⟩ : ∃ q, n = q + 1 := ⟨n - 1, by omega⟩
    simp only [m_ticketlineref14_Plan_Page_l3, m_ticketlineref14_Plan_Page_l3_b]
    by_cases c : (i : Int) < (sp.length : Int)
    · simp only [c, decide_true, if_true, show ¬ (i : Int) < 10 by omega, decide_false, Bool.false_eq_true, if_false]
      exact ⟨_, _, rfl, hp, fun _ => hl⟩
    · simp only [c, decide_false, Bool.false_eq_true, if_false]
      exact ⟨_, _, rfl, hp, fun _ => hl⟩
  | succ m ih =>
    intro n N i p hm hn hp
    obtain ⟨n, rfl⟩ : ∃ q, n = q + 1 := ⟨n - 1, by omega⟩
    simp only [m_ticketlineref14_Plan_Page_l3, m_ticketlineref14_Plan_Page_l3_b]
    by_cases c : (i : Int) < (sp.length : Int)
    · have hs := hsp.G i
      have w2 : IntKind.i64.wrap ((i : Int) + 1) = ((i + 1 : Nat) : Int) := by rw [wI (by omega) (by omega)]; omega
      have w3 : IntKind.i64.wrap (Int.tmod (GS sp i).1 128) = (GS sp i).1 % 128 := by rw [Int.tmod_eq_emod_of_nonneg hs.1, wI (by omega) (by omega)]
      simp only [c, decide_true, if_true, show (i : Int) < 10 by omega, Int.natCast_nonneg, rd_GS, rd_G, w2, w3, show (0 : Int) ≤ (GS sp i).1 % 128 by omega, show (GS sp i).1 % 128 < 128 by omega, wUmod]
      have hm := u64_mod (G p ((GS sp i).1 % 128) + (GS sp i).2.1)
      exact ih n N (i + 1) _ (by omega) (by omega) (hp.set _ hm.1 hm.2)
    · simp only [c, decide_false, Bool.false_eq_true, if_false]
      exact ⟨_, _, rfl, hp, fun _ => hl⟩

/-- what is kept while slots are put -/
structure Inv (k : Nat) (i : Nat) (p : List Int) : Prop where
  page : PageOK p
  nine : G p 9 = i
  top : 20 + (k : Int) ≤ G p 11
  top1 : G p 11 ≤ 128

theorem PageOK.len {p : List Int} (h : PageOK p) : p.length = 128 := h.1

theorem ref_Put {k i : Nat} {p : List Int} (h : Inv k i p) (hk : k ≤ 60) (hi : i < k) {x : Pr} (h1 : x.1.size ≤ 60) (h2 : x.2.1.size ≤ 60) (hc : 20 + (k : Int) + costS x ≤ G p 11) : ∃ q, m_ticketlineref14_Put p x = some q ∧ Inv k (i + 1) q := by
  have hp := h.page
  have hlen := hp.1
  have W1 := W_le (n := (x.1.size : Int)) (by omega)
  have W2 := W_le (n := (x.2.1.size : Int)) (by omega)
  have h9 := h.nine
  have h11 := h.top1
  have hcost : costS x = 1 + W x.1.size + W x.2.1.size := rfl
  have N1 := W_nonneg (x.1.size : Int)
  have N2 := W_nonneg (x.2.1.size : Int)
  have hll : ((packS x.1 ++ packS x.2.1).length : Int) = W x.1.size + W x.2.1.size := by
    rw [List.length_append, packS_length, packS_length]; omega
  have hf : fits ((packS x.1).length + (packS x.2.1).length) 8 := by rw [packS_length, packS_length]; unfold fits; omega
  have hu : U64 (packS x.1 ++ packS x.2.1) := fun y hy => (List.mem_append.1 hy).elim (packS_u64 _ y) (packS_u64 _ y)
  generalize hL : packS x.1 ++ packS x.2.1 = L at *
  have w1 : IntKind.u64.wrap (L.length : Int) = L.length := wU (by omega) (by omega)
  have w2 : IntKind.u64.wrap (G p 11 - (L.length : Int)) = G p 11 - L.length := wU (by omega) (by omega)
  have hp1 : PageOK (p.set 11 (G p 11 - L.length)) := hp.set 11 (by omega) (by omega)
  have g11 : G (p.set 11 (G p 11 - L.length)) 11 = G p 11 - L.length := by rw [G_set (by omega) 11 (by omega)]; rfl
  have w3 : IntKind.i64.wrap (G p 11 - (L.length : Int)) = G p 11 - L.length := wI (by omega) (by omega)
  have hput : m_ticketlineref14_put (p.set 11 (G p 11 - L.length)) (G p 11 - L.length) L = some (splice (p.set 11 (G p 11 - L.length)) (G p 11 - L.length) L) := ref_put hp1.1 (by omega) (by omega)
  have hp2 : PageOK (splice (p.set 11 (G p 11 - L.length)) (G p 11 - L.length) L) := splice_page hp1 (by omega) (by omega) hu
  have gs : ∀ j, 0 ≤ j → j < 20 → G (splice (p.set 11 (G p 11 - L.length)) (G p 11 - L.length) L) j = if j = 11 then G p 11 - L.length else G p j := by
    intro j h0 h20
    rw [G_splice (by omega) (by rw [hp1.1]; omega) j h0, if_neg (by omega), G_set (by omega) j h0]
    rfl
  generalize hq : splice (p.set 11 (G p 11 - L.length)) (G p 11 - L.length) L = q at *
  have g9 : G q 9 = i := by rw [gs 9 (by omega) (by omega), if_neg (by omega)]; exact h9
  have g11' : G q 11 = G p 11 - L.length := by rw [gs 11 (by omega) (by omega), if_pos rfl]
  have w4 : IntKind.i64.wrap (20 + IntKind.i64.wrap (i : Int)) = 20 + i := by rw [wI (x := (i : Int)) (by omega) (by omega), wI (by omega) (by omega)]
  unfold m_ticketlineref14_Put
  rw [ref_Pack (by omega), ref_Pack (by omega)]
  simp only [Option.bind_some, hf, if_true, rd_G, hL, w1, w2, g11, w3, hput, g9, w4, show (0 : Int) ≤ 20 + (i : Int) by omega, show 20 + (i : Int) < 128 by omega]
  generalize IntKind.u64.wrap (IntKind.u64.wrap (65536 * G q 11) + IntKind.u64.wrap (256 * IntKind.u64.wrap ↑x.1.size)) = u
  have hm := u64_mod (u + IntKind.u64.wrap (x.2.1.size : Int))
  have hp3 := hp2.set (20 + (i : Int)).toNat (x := IntKind.u64.wrap (u + IntKind.u64.wrap (x.2.1.size : Int))) (by rw [wUmod]; exact hm.1) (by rw [wUmod]; exact hm.2)
  have gg : ∀ j, 0 ≤ j → j < 20 → G (q.set (20 + (i : Int)).toNat (IntKind.u64.wrap (u + IntKind.u64.wrap (x.2.1.size : Int)))) j = G q j := by
    intro j h0 h20
    rw [G_set (by rw [hp2.1]; omega) j h0, if_neg (by omega)]
  generalize hr : q.set (20 + (i : Int)).toNat (IntKind.u64.wrap (u + IntKind.u64.wrap (x.2.1.size : Int))) = r at *
  have w5 : IntKind.u64.wrap (G r 9 + 1) = (i : Int) + 1 := by rw [gg 9 (by omega) (by omega), g9, wU (by omega) (by omega)]
  rw [w5]
  refine ⟨_, rfl, hp3.set 9 (by omega) (by omega), ?_, ?_, ?_⟩
  · rw [G_set (by rw [hp3.1]; omega) 9 (by omega)]; rfl
  · rw [G_set (by rw [hp3.1]; omega) 11 (by omega), if_neg (by omega), gg 11 (by omega) (by omega), g11']; omega
  · rw [G_set (by rw [hp3.1]; omega) 11 (by omega), if_neg (by omega), gg 11 (by omega) (by omega), g11']; omega

theorem plan_l2 {l : List Pr} (hl : l.length ≤ 60) (s1 : Int → Int → Int → ByteArray → ByteArray → (List Pr) → (List Int) → (List Sp) → (List Int) → (List Int) → Option ((List Int) × Bool)) (i : Nat) (hi : i < l.length) (g : Int) (hg : g ≤ 3) (a b : Int) (lo hi' : ByteArray) (gaps : List Int) (sp : List Sp) (z : List Int)
    (hx : (GP l i).1.size ≤ 60 ∧ (GP l i).2.1.size ≤ 60)
    (hs : ∀ q, Inv l.length (i + 1) q → PRes l (s1 ((i + 1 : Nat) : Int) a b lo hi' l gaps sp z q)) : ∀ (m n N : Nat) (j : Int) (p : List Int), j + m = g → 0 ≤ j → m < n → Inv l.length i p → 20 + (l.length : Int) + m + costS (GP l i) ≤ G p 11 →
    PRes l (m_ticketlineref14_Plan_Page_l2 N s1 n i g j a b lo hi' l gaps sp z p) := by
  have hcr := costS_range (x := GP l i) (by omega)
  intro m
  induction m with
  | zero =>
    intro n N j p hm hj hn hp ht
    obtain ⟨n, rfl⟩ : ∃ q, n = q + 1 := ⟨n - 1, by omega⟩
    obtain ⟨q, h1, h2⟩ := ref_Put hp hl hi hx.1 hx.2 (by omega)
    have w2 : IntKind.i64.wrap ((i : Int) + 1) = ((i + 1 : Nat) : Int) := by rw [wI (by omega) (by omega)]; omega
    simp only [m_ticketlineref14_Plan_Page_l2, m_ticketlineref14_Plan_Page_l2_b, show ¬ j < g by omega, decide_false, Bool.false_eq_true, if_false, Int.natCast_nonneg, if_true, show (i : Int) < (l.length : Int) by omega, rd_GP, h1, Option.bind_some, w2]
    exact hs q h2
  | succ m ih =>
    intro n N j p hm hj hn hp ht
    obtain ⟨n, rfl⟩ : ∃ q, n = q + 1 := ⟨n - 1, by omega⟩
    have hlen := hp.page.1
    have h11 := hp.top1
    have w2 : IntKind.i64.wrap (j + 1) = j + 1 := wI (by omega) (by omega)
    have w3 : IntKind.u64.wrap (G p 11 - 1) = G p 11 - 1 := wU (by omega) (by omega)
    have g11 : G (p.set 11 (G p 11 - 1)) 11 = G p 11 - 1 := by rw [G_set (by omega) 11 (by omega)]; rfl
    have hp1 : PageOK (p.set 11 (G p 11 - 1)) := hp.page.set 11 (by omega) (by omega)
    simp only [m_ticketlineref14_Plan_Page_l2, m_ticketlineref14_Plan_Page_l2_b, show j < g by omega, decide_true, if_true, rd_G, w2, w3, g11, show (0 : Int) ≤ G p 11 - 1 by omega, show G p 11 - 1 < 128 by omega]
    have gg : ∀ k, 0 ≤ k → k < 20 → G ((p.set 11 (G p 11 - 1)).set (G p 11 - 1).toNat 57005) k = if k = 11 then G p 11 - 1 else G p k := by
      intro k h0 h20
      rw [G_set (by rw [hp1.1]; omega) k h0, if_neg (by omega), G_set (by omega) k h0]; rfl
    refine ih n N (j + 1) _ (by omega) (by omega) (by omega) ⟨hp1.set _ (by omega) (by omega), ?_, ?_, ?_⟩ ?_
    · rw [gg 9 (by omega) (by omega), if_neg (by omega)]; exact hp.nine
    · rw [gg 11 (by omega) (by omega), if_pos rfl]; omega
    · rw [gg 11 (by omega) (by omega), if_pos rfl]; omega
    · rw [gg 11 (by omega) (by omega), if_pos rfl]; omega

theorem plan_l1 {l : List Pr} (hl : l.length ≤ 60) (a b : Int) (lo hi' : ByteArray) (gaps : List Int) (hgp : U8 gaps) (sp : List Sp) (hsp : SpOK sp) (z : List Int) : ∀ (m n N i : Nat) (p : List Int), 1000 < N → i + m = l.length → m < n → Inv l.length i p → (∀ j : Nat, j < i → (GP l j).1.size ≤ 60 ∧ (GP l j).2.1.size ≤ 60) →
    PRes l (m_ticketlineref14_Plan_Page_l1 N n i a b lo hi' l gaps sp z p) := by
  intro m
  induction m with
  | zero =>
    intro n N i p hN hm hn hp hz
    obtain ⟨n, rfl⟩ : ∃ q, n = q + 1 := ⟨n - 1, by omega⟩
    simp only [m_ticketlineref14_Plan_Page_l1, m_ticketlineref14_Plan_Page_l1_b, show ¬ (i : Int) < (l.length : Int) by omega, decide_false, Bool.false_eq_true, if_false]
    refine plan_l3 ⟨hl, fun x hx => ?_⟩ a b lo hi' gaps sp hsp z 10 N N 0 p (by omega) (by omega) hp.page
    obtain ⟨j, hj, rfl⟩ := List.getElem_of_mem hx
    have := hz j (by omega)
    rw [GP_get hj] at this
    exact this
  | succ m ih =>
    intro n N i p hN hm hn hp hz
    obtain ⟨n, rfl⟩ : ∃ q, n = q + 1 := ⟨n - 1, by omega⟩
    have hi : i < l.length := by omega
    have h11 := hp.top1
    have h11' := hp.top
    have w11 : IntKind.i64.wrap (G p 11) = G p 11 := wI (by omega) (by omega)
    -- a round with a gap of g words
    have round : ∀ g : Int, 0 ≤ g → g ≤ 3 → PRes l (if decide (((GP l i).1.size : Int) > 60) = true then some (List.replicate 128 0, false) else if decide (((GP l i).2.1.size : Int) > 60) = true then some (List.replicate 128 0, false) else
        Option.bind (m_ticketlineref14_Cost (GP l i)) fun r49 => if decide (G p 11 < IntKind.i64.wrap (IntKind.i64.wrap (IntKind.i64.wrap (20 + (l.length : Int)) + g) + r49)) = true then some (List.replicate 128 0, false) else
          m_ticketlineref14_Plan_Page_l2 N (m_ticketlineref14_Plan_Page_l1 N n) N i g 0 a b lo hi' l gaps sp z p) := by
      intro g g0 g3
      by_cases c1 : ((GP l i).1.size : Int) > 60
      · simp only [c1, decide_true, if_true]; exact PRes.zero l
      by_cases c2 : ((GP l i).2.1.size : Int) > 60
      · simp only [c1, c2, decide_true, if_true, decide_false, Bool.false_eq_true, if_false]; exact PRes.zero l
      have hcr := costS_range (x := GP l i) (by omega)
      simp only [c1, c2, decide_false, Bool.false_eq_true, if_false, ref_Cost (x := GP l i) (by omega) (by omega), Option.bind_some]
      rw [wI (x := 20 + (l.length : Int)) (by omega) (by omega), wI (x := 20 + (l.length : Int) + g) (by omega) (by omega), wI (x := 20 + (l.length : Int) + g + costS (GP l i)) (by omega) (by omega)]
      by_cases c3 : G p 11 < 20 + (l.length : Int) + g + costS (GP l i)
      · simp only [c3, decide_true, if_true]; exact PRes.zero l
      simp only [c3, decide_false, Bool.false_eq_true, if_false]
      exact plan_l2 hl _ i hi g g3 a b lo hi' gaps sp z (by omega) (fun q hq => ih n N (i + 1) q hN (by omega) (by omega) hq fun j hj => by
        by_cases e : j = i
        · subst e; omega
        · exact hz j (by omega)) g.toNat N N 0 p (by omega) (by omega) (by omega) hp (by omega)
    simp only [m_ticketlineref14_Plan_Page_l1, m_ticketlineref14_Plan_Page_l1_b, show (i : Int) < (l.length : Int) by omega, decide_true, if_true, rd_GP, rd_G, Int.natCast_nonneg, w11]
    by_cases c : (gaps.length : Int) > 0
    · have hr : 0 ≤ Int.tmod (i : Int) gaps.length ∧ Int.tmod (i : Int) gaps.length < gaps.length := by
        rw [Int.tmod_eq_emod_of_nonneg (by omega)]
        exact ⟨Int.emod_nonneg _ (by omega), Int.emod_lt_of_pos _ c⟩
      have hu := hgp.G (Int.tmod (i : Int) gaps.length)
      have w4 : IntKind.i64.wrap (Int.tmod (G gaps (Int.tmod (i : Int) gaps.length)) 4) = G gaps (Int.tmod (i : Int) gaps.length) % 4 := by rw [Int.tmod_eq_emod_of_nonneg hu.1, wI (by omega) (by omega)]
      simp only [c, decide_true, if_true, show (gaps.length : Int) ≠ 0 by omega, ne_eq, not_false_eq_true, hr.1, hr.2, w4]
      exact round _ (by omega) (by omega)
    · simp only [c, decide_false, Bool.false_eq_true, if_false]
      exact round 0 (by omega) (by omega)

theorem plan_l0 {l : List Pr} (hl : l.length ≤ 60) (a b : Int) (lo hi' : ByteArray) (gaps : List Int) (hgp : U8 gaps) (sp : List Sp) (hsp : SpOK sp) (z : List Int) : ∀ (m n N i : Nat) (p : List Int), 1000 < N → i + m = 8 → m < n → Inv 60 0 p →
    PRes l (m_ticketlineref14_Plan_Page_l0 N n i a b lo hi' l gaps sp z p) := by
  intro m
  induction m with
  | zero =>
    intro n N i p hN hm hn hp
    obtain ⟨n, rfl⟩ : ∃ q, n = q + 1 := ⟨n - 1, by omega⟩
    simp only [m_ticketlineref14_Plan_Page_l0, m_ticketlineref14_Plan_Page_l0_b, show ¬ (i : Int) < 8 by omega, decide_false, Bool.false_eq_true, if_false]
    have h1 := hp.top
    exact plan_l1 hl a b lo hi' gaps hgp sp hsp z l.length N N 0 p hN (by omega) (by omega) ⟨hp.page, hp.nine, by omega, hp.top1⟩ (fun j hj => by omega)
  | succ m ih =>
    intro n N i p hN hm hn hp
    obtain ⟨n, rfl⟩ : ∃ q, n = q + 1 := ⟨n - 1, by omega⟩
    have hlen := hp.page.1
    have w2 : IntKind.i64.wrap ((i : Int) + 1) = ((i + 1 : Nat) : Int) := by rw [wI (by omega) (by omega)]; omega
    have w3 : IntKind.u64.wrap (IntKind.i64.wrap (1000 + (i : Int))) = 1000 + i := by rw [wI (by omega) (by omega), wU (by omega) (by omega)]
    simp only [m_ticketlineref14_Plan_Page_l0, m_ticketlineref14_Plan_Page_l0_b, show (i : Int) < 8 by omega, decide_true, if_true, Int.natCast_nonneg, show (i : Int) < 128 by omega, w2, w3, Int.toNat_natCast]
    refine ih n N (i + 1) _ hN (by omega) (by omega) ⟨hp.page.set i (by omega) (by omega), ?_, ?_, ?_⟩
    · rw [G_set (by omega) 9 (by omega), if_neg (by omega)]; exact hp.nine
    · rw [G_set (by omega) 11 (by omega), if_neg (by omega)]; exact hp.top
    · rw [G_set (by omega) 11 (by omega), if_neg (by omega)]; exact hp.top1

theorem G_empty {level : Int} {low high : ByteArray} (hl : low.size ≤ 24) (hh : high.size ≤ 24) (j : Int) (h0 : 0 ≤ j) (h1 : j < 12) : G (emptyS level low high) j = if j = 8 then 1 + level else if j = 11 then 128 else 0 := by
  have p1 := packS_len3 hl
  have p2 := packS_len3 hh
  unfold emptyS
  rw [G_splice (by omega) (by rw [splice_length _ _ (by omega) (by simp; omega)]; simp; omega) j h0, if_neg (by omega), G_splice (by omega) (by simp; omega) j h0, if_neg (by omega),
    G_set (by simp) j h0, if_neg (by omega), G_set (by simp) j h0, if_neg (by omega), G_set (by simp) j h0, G_set (by simp) j h0]
  have hz : G (List.replicate 128 0) j = 0 := by
    unfold G; rw [List.getD_eq_getElem?_getD, List.getElem?_replicate]; split <;> rfl
  rw [hz]
  by_cases c1 : j = 8
  · subst c1; rfl
  · by_cases c2 : j = 11
    · subst c2; rfl
    · rw [if_neg (by omega), if_neg (by omega), if_neg c1, if_neg c2]

/-- the page of a plan -/
theorem plan_page {x : Pln} (h : PlnOK x) : PRes x.2.2.2.2.1 (m_ticketlineref14_Plan_Page x) := by
  unfold m_ticketlineref14_Plan_Page m_ticketlineref14_Plan_Page_a
  by_cases c1 : (x.2.2.1.size : Int) > 24
  · simp only [c1, decide_true, if_true]; exact PRes.zero _
  by_cases c2 : (x.2.2.2.1.size : Int) > 24
  · simp only [c1, c2, decide_true, if_true, decide_false, Bool.false_eq_true, if_false]; exact PRes.zero _
  by_cases c3 : (x.2.2.2.2.1.length : Int) > 60
  · simp only [c1, c2, c3, decide_true, if_true, decide_false, Bool.false_eq_true, if_false]; exact PRes.zero _
  by_cases c4 : x.2.1 < 0
  · simp only [c1, c2, c3, c4, decide_true, if_true, decide_false, Bool.false_eq_true, if_false]; exact PRes.zero _
  by_cases c5 : x.1 < -1
  · simp only [c1, c2, c3, c4, c5, decide_true, if_true, decide_false, Bool.false_eq_true, if_false]; exact PRes.zero _
  by_cases c6 : x.1 > 300
  · simp only [c1, c2, c3, c4, c5, c6, decide_true, if_true, decide_false, Bool.false_eq_true, if_false]; exact PRes.zero _
  have hn := h.next
  have w1 : IntKind.u64.wrap x.2.1 = x.2.1 := wU (by omega) (by omega)
  simp only [c1, c2, c3, c4, c5, c6, decide_false, Bool.false_eq_true, if_false, ref_Empty (level := x.1) (low := x.2.2.1) (high := x.2.2.2.1) (by omega) (by omega) (by omega) (by omega), Option.bind_some, w1]
  have hE := empty_page (level := x.1) (low := x.2.2.1) (high := x.2.2.2.1) (by omega) (by omega) (by omega) (by omega)
  have hlen := hE.1
  refine plan_l0 (by omega) _ _ _ _ _ h.gaps _ h.spoils _ 8 FUEL FUEL 0 _ (by have := FUEL_big; omega) (by omega) (by have := FUEL_big; omega) ⟨hE.set 10 (by omega) (by omega), ?_, ?_, ?_⟩
  · rw [G_set (by omega) 9 (by omega), if_neg (by omega), G_empty (by omega) (by omega) 9 (by omega) (by omega)]; rfl
  · rw [G_set (by omega) 11 (by omega), if_neg (by omega), G_empty (by omega) (by omega) 11 (by omega) (by omega), if_neg (by omega), if_pos rfl]; omega
  · rw [G_set (by omega) 11 (by omega), if_neg (by omega), G_empty (by omega) (by omega) 11 (by omega) (by omega), if_neg (by omega), if_pos rfl]; omega

end Go.Ev.L

/- The order of strings; law 14's made pages and swaps. -/
set_option linter.unusedVariables false
set_option linter.unusedSimpArgs false
namespace Go.Ev.L
open Go Go.Ev Go.Ev.M
open Go.Lib (compareBytes cmp_eq)

end Go.Ev.L

/- Unpacking inverts packing. -/
set_option linter.unusedVariables false
set_option linter.unusedSimpArgs false
namespace Go.Ev.L
open Go Go.Ev Go.Ev.M

end Go.Ev.L

/- Kinds of plans. -/
set_option linter.unusedVariables false
namespace Go.Ev.L
open Go Go.Ev Go.Ev.M
abbrev plnTy : Ty := .pair (.int .i64) (.pair (.int .i64) (.pair .str (.pair .str (.pair (.sl (.pair .str (.pair .str .nl))) (.pair (.sl (.int .u8)) (.pair (.sl (.pair (.int .u8) (.pair (.int .u64) .nl))) .nl))))))
theorem plnOK {x : Pln} (h : plnTy.wf x) : PlnOK x := by
  obtain ⟨h1, h2, h3, h4, h5, h6, h7, _⟩ := h
  exact ⟨fun y hy => u8_range (h6.2 y hy), fun y hy => by
    have h8 := h7.2 y hy
    have a := u8_range h8.1
    have b := u64_range h8.2.1
    exact ⟨a.1, a.2, b.1, b.2⟩, (i64_range h2).2⟩
end Go.Ev.L
