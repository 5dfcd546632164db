/- Words and bytes: what packing and unpacking compute. -/
import Derived.Test.YtfdgkmligadcnaaL0
import Derived.Test.YtfdgkmligadcnaaM14
set_option linter.unusedVariables false
set_option linter.unusedSimpArgs false
namespace Go.Ev.L
open Go Go.Ev Go.Ev.M

def G (p : List Int) (i : Int) : Int := p.getD i.toNat 0
theorem rd_G (k : IntKind) (p : List Int) (i : Int) : rd (.int k) p i = G p i := rfl

/-- how many words some bytes have -/
def W (n : Int) : Int := if n ≤ 0 then 0 else (n + 7) / 8
theorem keys_Words {n : Int} (h : n < 9223372036854775808) : m_keys_Words n = some (W n) := by
  unfold m_keys_Words W
  by_cases h0 : n ≤ 0
  · simp [h0]
  · simp only [h0, decide_false, Bool.false_eq_true, if_false]
    rw [wI (x := n - 1) (by omega) (by omega), td8 (by omega), wI (x := (n - 1) / 8) (by omega) (by omega), wI (by omega) (by omega)]
    congr 1; omega
theorem ref14_Words {n : Int} (h0 : 0 ≤ n) (h : n < 9223372036854775800) : m_ticketlineref14_Words n = some (W n) := by
  unfold m_ticketlineref14_Words W
  rw [wI (x := n + 7) (by omega) (by omega), td8 (by omega), wI (by omega) (by omega)]
  split
  · congr 1; omega
  · rfl
theorem W_nonneg (n : Int) : 0 ≤ W n := by unfold W; split <;> omega
theorem W_le {n : Int} (h : 0 ≤ n) : 8 * W n ≤ n + 7 ∧ n ≤ 8 * W n := by unfold W; split <;> omega

/-- the bytes of a word, the highest first -/
def w8 (w : Int) : List Int := [w / 72057594037927936 % 256, w / 281474976710656 % 256, w / 1099511627776 % 256, w / 4294967296 % 256, w / 16777216 % 256, w / 65536 % 256, w / 256 % 256, w % 256]
theorem w8_length (w : Int) : (w8 w).length = 8 := rfl
def b8 (l : List Int) : List Int := l.flatMap w8
theorem b8_length (l : List Int) : (b8 l).length = 8 * l.length := by
  induction l with
  | nil => rfl
  | cons w l ih => simp only [b8, List.flatMap_cons, List.length_append, w8_length, List.length_cons] at *; omega
theorem b8_append (l m : List Int) : b8 (l ++ m) = b8 l ++ b8 m := by simp [b8]
theorem b8_one (w : Int) : b8 [w] = w8 w := by simp [b8]

/-- words of 64 bits -/
def U64 (l : List Int) : Prop := ∀ x, x ∈ l → 0 ≤ x ∧ x < 18446744073709551616

theorem G_nil (i : Int) : G [] i = 0 := by simp [G]
theorem U64.G {l : List Int} (h : U64 l) (i : Int) : 0 ≤ G l i ∧ G l i < 18446744073709551616 := by
  unfold L.G
  rw [List.getD_eq_getElem?_getD]
  cases e : l[i.toNat]? with
  | none => simp
  | some x => exact h x (List.mem_of_getElem? e)

theorem shr_u64 {w : Int} (h : 0 ≤ w) (y : Int) (m : Int) (hm : m = 2 ^ (min y.toNat 64)) (hp : 0 < m) : shrI .u64 w y = w / m := by
  unfold shrI
  rw [show IntKind.bits .u64 = 64 from rfl, ← hm]
  exact Int.fdiv_eq_ediv_of_nonneg _ (by omega)

/-- all zero from n on -/
def zeroFrom (b : List Int) (n : Nat) : Bool := (b.drop n).all (· == 0)

theorem unpack_l2 (N a b c o : Int) : ∀ (n : Nat) (M i : Nat) (out : List Int), 0 ≤ a → 0 ≤ b → (b + c : Int) = out.length → 0 ≤ c → (i : Int) ≤ c → c < i + n → c < 1000000 → a ≤ out.length →
    m_keys_Unpack_l2 M n a b c c i out = if zeroFrom out (b.toNat + i) = true then some (strOf (out.take a.toNat), 0) else some (⟨#[]⟩, 12) := by
  intro n
  induction n with
  | zero => intro M i out h1 h2 h3 h4 h5 h6; omega
  | succ n ih =>
    intro M i out h1 h2 h3 h4 h5 h6 h7 h8
    simp only [m_keys_Unpack_l2, m_keys_Unpack_l2_b, rd_G]
    by_cases hi : (i : Int) < c
    · have hlt : b.toNat + i < out.length := by omega
      have hd : out.drop (b.toNat + i) = out[b.toNat + i] :: out.drop (b.toNat + i + 1) := List.drop_eq_getElem_cons hlt
      have hg : G out (b + (i : Int)) = out[b.toNat + i] := by
        unfold G
        rw [show (b + (i : Int)).toNat = b.toNat + i by omega, List.getD_eq_getElem?_getD, List.getElem?_eq_getElem hlt]; rfl
      have hz : zeroFrom out (b.toNat + i) = (out[b.toNat + i] == 0 && zeroFrom out (b.toNat + (i + 1))) := by
        unfold zeroFrom; rw [hd]; simp [Nat.add_assoc]
      simp (disch := omega) only [hg, hz, wI]
      have := ih M (i + 1) out h1 h2 h3 h4 (by omega) (by omega) h7 h8
      simp only [hi, decide_true, if_true, Int.natCast_nonneg]
      by_cases hx : out[b.toNat + i] = 0
      · simp only [hx, bne_self_eq_false, Bool.false_eq_true, if_false, beq_self_eq_true, Bool.true_and]
        exact_mod_cast this
      · simp [hx]
    · have hic : (i : Int) = c := by omega
      have hz : zeroFrom out (b.toNat + i) = true := by
        unfold zeroFrom; rw [List.drop_eq_nil_of_le (by omega)]; rfl
      simp only [hi, decide_false, Bool.false_eq_true, if_false, hz, if_true, h1, h8]
      simp [win]

theorem unpack_l1 (N n : Nat) (s0 : (Int → (List Int) → Int → Int → (List Int) → Option (ByteArray × Int))) (a w len i : Int) (l out : List Int) (h0 : 0 ≤ w) (hn : 9 ≤ n) (ho : out.length ≤ 100000) :
    m_keys_Unpack_l1 N s0 n a w 7 l len i out = s0 a l len (IntKind.i64.wrap (i + 1)) (out ++ w8 w) := by
  obtain ⟨n, rfl⟩ : ∃ m, n = m + 9 := ⟨n - 9, by omega⟩
  have step : ∀ (k : Nat) (n : Nat) (out : List Int) (m : Int), k ≤ 7 → out.length ≤ 200000 → m = 2 ^ (8 * k) → m_keys_Unpack_l1 N s0 (n + 1) a w (k : Int) l len i out = m_keys_Unpack_l1 N s0 n a w ((k : Int) - 1) l len i (out ++ [w / m % 256]) := by
    intro k n out m hk ho hm
    have hp : 0 < m := by rw [hm]; exact Int.pow_pos (by omega)
    simp only [m_keys_Unpack_l1, m_keys_Unpack_l1_b]
    rw [wI (x := 8 * (k : Int)) (by omega) (by omega), wI (x := (k : Int) - 1) (by omega) (by omega)]
    have hs : shrI .u64 w (8 * (k : Int)) = w / m := shr_u64 h0 _ _ (by rw [hm, show (8 * (k : Int)).toNat = 8 * k by omega, Nat.min_eq_left (by omega)]) hp
    have hf : fits (List.length out + 1) 1 := by unfold fits; omega
    simp [hs, wBmod, hf, show (0 : Int) ≤ 8 * (k : Int) by omega]
  have hl : ∀ (x : Int) (o : List Int), (o ++ [x]).length = o.length + 1 := by simp
  have e7 := step 7 (n + 8) out 72057594037927936 (by omega) (by omega) (by decide)
  have e6 := step 6 (n + 7) (out ++ [w / 72057594037927936 % 256]) 281474976710656 (by omega) (by simp only [hl]; omega) (by decide)
  have e5 := step 5 (n + 6) (out ++ [w / 72057594037927936 % 256] ++ [w / 281474976710656 % 256]) 1099511627776 (by omega) (by simp only [hl]; omega) (by decide)
  have e4 := step 4 (n + 5) (out ++ [w / 72057594037927936 % 256] ++ [w / 281474976710656 % 256] ++ [w / 1099511627776 % 256]) 4294967296 (by omega) (by simp only [hl]; omega) (by decide)
  have e3 := step 3 (n + 4) (out ++ [w / 72057594037927936 % 256] ++ [w / 281474976710656 % 256] ++ [w / 1099511627776 % 256] ++ [w / 4294967296 % 256]) 16777216 (by omega) (by simp only [hl]; omega) (by decide)
  have e2 := step 2 (n + 3) (out ++ [w / 72057594037927936 % 256] ++ [w / 281474976710656 % 256] ++ [w / 1099511627776 % 256] ++ [w / 4294967296 % 256] ++ [w / 16777216 % 256]) 65536 (by omega) (by simp only [hl]; omega) (by decide)
  have e1 := step 1 (n + 2) (out ++ [w / 72057594037927936 % 256] ++ [w / 281474976710656 % 256] ++ [w / 1099511627776 % 256] ++ [w / 4294967296 % 256] ++ [w / 16777216 % 256] ++ [w / 65536 % 256]) 256 (by omega) (by simp only [hl]; omega) (by decide)
  have e0 := step 0 (n + 1) (out ++ [w / 72057594037927936 % 256] ++ [w / 281474976710656 % 256] ++ [w / 1099511627776 % 256] ++ [w / 4294967296 % 256] ++ [w / 16777216 % 256] ++ [w / 65536 % 256] ++ [w / 256 % 256]) 1 (by omega) (by simp only [hl]; omega) (by decide)
  refine e7.trans (e6.trans (e5.trans (e4.trans (e3.trans (e2.trans (e1.trans (e0.trans ?_)))))))
  simp [m_keys_Unpack_l1, m_keys_Unpack_l1_b, w8]

/-- the string of some bytes of words, if all other bytes are 0 -/
def U (l : List Int) (n : Int) : Option ByteArray := if zeroFrom (b8 l) n.toNat = true then some (strOf ((b8 l).take n.toNat)) else none

theorem unpack_l0 (a : Int) (l : List Int) (hl : U64 l) (hlen : l.length ≤ 10000) (h0 : 0 ≤ a) (ha : a ≤ 8 * l.length) : ∀ (n N i : Nat) (out : List Int), 100000 < N → i ≤ l.length → l.length < i + n → out = b8 (l.take i) →
    m_keys_Unpack_l0 N n a l l.length i out = match U l a with | some s => some (s, 0) | none => some (⟨#[]⟩, 12) := by
  intro n
  induction n with
  | zero => intro N i out h1 h2 h3; omega
  | succ n ih =>
    intro N i out hN h2 h3 ho
    have hol : out.length = 8 * i := by rw [ho, b8_length, List.length_take]; omega
    simp only [m_keys_Unpack_l0, m_keys_Unpack_l0_b, rd_G]
    by_cases hi : i < l.length
    · have hg : G l (i : Int) = l[i] := by
        unfold G; rw [show (i : Int).toNat = i by omega, List.getD_eq_getElem?_getD, List.getElem?_eq_getElem hi]; rfl
      have hw := hl.G (i : Int)
      rw [unpack_l1 N N _ a _ _ _ l out hw.1 (by omega) (by omega), wI (by omega) (by omega)]
      have := ih N (i + 1) (out ++ w8 (G l i)) hN (by omega) (by omega) (by rw [ho, hg, List.take_succ_eq_append_getElem hi, b8_append, b8_one])
      simp only [show (i : Int) < l.length by omega, decide_true, if_true, Int.natCast_nonneg]
      exact_mod_cast this
    · have hil : i = l.length := by omega
      subst hil
      have ho' : out = b8 l := by rw [ho, List.take_length]
      have hlt : (0 : Int) ≤ out.length := by omega
      have := unpack_l2 0 a a (out.length - a) 0 N N 0 out h0 h0 (by omega) (by omega) (by omega) (by omega) (by omega) (by omega)
      simp only [Int.lt_irrefl, decide_false, Bool.false_eq_true, if_false, hlt, if_true, Int.le_refl, h0, show a ≤ (out.length : Int) by omega]
      refine this.trans ?_
      unfold U
      rw [ho', Nat.add_zero]
      split <;> simp_all

theorem FUEL_big : 1000000 < FUEL := by unfold FUEL; omega

/-- the string of so many bytes of words, or the error -/
theorem keys_Unpack (l : List Int) (n : Int) (hl : U64 l) (hlen : l.length ≤ 10000) : m_keys_Unpack l n = some (
    (if n < 0 then (⟨#[]⟩, 2) else if n > 40 then (⟨#[]⟩, 5) else if (l.length : Int) ≠ W n then (⟨#[]⟩, 12) else match U l n with | some s => (s, 0) | none => (⟨#[]⟩, 12)) : ByteArray × Int) := by
  unfold m_keys_Unpack m_keys_Unpack_a
  by_cases h1 : n < 0
  · simp [h1]
  by_cases h2 : n > 40
  · simp [h1, h2]
  simp only [h1, h2, decide_false, Bool.false_eq_true, if_false]
  rw [keys_Words (by omega)]
  by_cases h3 : (l.length : Int) = W n
  · have := W_le (n := n) (by omega)
    have h4 := unpack_l0 n l hl hlen (by omega) (by omega) FUEL FUEL 0 [] (by have := FUEL_big; omega) (by omega) (by have := FUEL_big; omega) (by simp [b8])
    simp only [Option.bind_some, h3, bne_self_eq_false, Bool.false_eq_true, if_false, ne_eq, not_true]
    rw [h3] at h4
    refine Eq.trans (by exact_mod_cast h4) ?_
    split <;> simp_all
  · simp [h3]
end Go.Ev.L
