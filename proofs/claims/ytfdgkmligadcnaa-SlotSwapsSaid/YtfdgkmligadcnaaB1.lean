/- The reference's text of words. -/
import Derived.Test.YtfdgkmligadcnaaB0
set_option linter.unusedVariables false
set_option linter.unusedSimpArgs false
namespace Go.Ev.L
open Go Go.Ev Go.Ev.M

theorem set_at {α : Type} (pre tail : List α) (k : Nat) (v : α) : (pre ++ tail).set (pre.length + k) v = pre ++ tail.set k v := by
  rw [List.set_append_right _ _ (by omega)]; congr 2; omega

theorem text_l2 : ∀ (n M i : Nat) (a : Int) (b : List Int), 0 ≤ a → a ≤ b.length → i ≤ b.length → b.length < i + n → b.length < 1000000 →
    m_ticketlineref14_Text_l2 M n a i b = if zeroFrom b i = true then some (strOf (b.take a.toNat), true) else some (⟨#[]⟩, false) := by
  intro n
  induction n with
  | zero => intro M i a b h1 h2 h3 h4; omega
  | succ n ih =>
    intro M i a b h1 h2 h3 h4 h5
    simp only [m_ticketlineref14_Text_l2, m_ticketlineref14_Text_l2_b, rd_G]
    by_cases hi : i < b.length
    · have hd : b.drop i = b[i] :: b.drop (i + 1) := List.drop_eq_getElem_cons hi
      have hg : G b (i : Int) = b[i] := by
        unfold G
        rw [show (i : Int).toNat = i by omega, List.getD_eq_getElem?_getD, List.getElem?_eq_getElem hi]; rfl
      have hz : zeroFrom b i = (b[i] == 0 && zeroFrom b (i + 1)) := by unfold zeroFrom; rw [hd, List.all_cons]
      simp (disch := omega) only [hg, hz, wI]
      have := ih M (i + 1) a b h1 h2 (by omega) (by omega) h5
      simp only [show (i : Int) < (b.length : Int) by omega, decide_true, if_true, Int.natCast_nonneg]
      by_cases hx : b[i] = 0
      · simp only [hx, bne_self_eq_false, Bool.false_eq_true, if_false, beq_self_eq_true, Bool.true_and]
        exact_mod_cast this
      · simp [hx]
    · have hz : zeroFrom b i = true := by unfold zeroFrom; rw [List.drop_eq_nil_of_le (by omega)]; rfl
      simp only [show ¬ (i : Int) < (b.length : Int) by omega, decide_false, Bool.false_eq_true, if_false, hz, if_true, h1, h2]
      simp [win]

theorem text_l1 (N n : Nat) (s0 : (List Int) → Int → Int → (List Int) → Option (ByteArray × Bool)) (l : List Int) (a : Int) (i : Nat) (w : Int) (h0 : 0 ≤ w) (h1 : w < 18446744073709551616) (hn : 9 ≤ n) (hi : i ≤ 100000) (pre rest : List Int)
    (hp : pre.length = 8 * i) (z0 z1 z2 z3 z4 z5 z6 z7 : Int) :
    m_ticketlineref14_Text_l1 N s0 n l a i w 7 (pre ++ (z0 :: z1 :: z2 :: z3 :: z4 :: z5 :: z6 :: z7 :: rest)) = s0 l a (IntKind.i64.wrap ((i : Int) + 1)) (pre ++ w8 w ++ rest) := by
  obtain ⟨n, rfl⟩ : ∃ m, n = m + 9 := ⟨n - 9, by omega⟩
  have step : ∀ (k : Nat) (n : Nat) (x : Int) (tail : List Int), k ≤ 7 → 8 ≤ tail.length → 0 ≤ x → x < 18446744073709551616 → m_ticketlineref14_Text_l1 N s0 (n + 1) l a i x (k : Int) (pre ++ tail) = m_ticketlineref14_Text_l1 N s0 n l a i (x / 256) ((k : Int) - 1) (pre ++ tail.set k (x % 256)) := by
    intro k n x tail hk ht hx hx'
    simp only [m_ticketlineref14_Text_l1, m_ticketlineref14_Text_l1_b]
    rw [wI (x := 8 * (i : Int)) (by omega) (by omega), wI (x := 8 * (i : Int) + k) (by omega) (by omega), wI (x := (k : Int) - 1) (by omega) (by omega), Int.tdiv_eq_ediv_of_nonneg hx, Int.tmod_eq_emod_of_nonneg hx, wU (x := x / 256) (by omega) (by omega), wB (x := x % 256) (by omega) (by omega)]
    have e : (8 * (i : Int) + k).toNat = pre.length + k := by omega
    rw [e, set_at]
    simp [show (0 : Int) ≤ 8 * (i : Int) + k by omega, show 8 * (i : Int) + k < (pre.length : Int) + tail.length by omega]
  have e7 := step 7 (n + 8) w (z0 :: z1 :: z2 :: z3 :: z4 :: z5 :: z6 :: z7 :: rest) (by omega) (by simp) h0 h1
  have e6 := step 6 (n + 7) (w / 256) (z0 :: z1 :: z2 :: z3 :: z4 :: z5 :: z6 :: (w % 256) :: rest) (by omega) (by simp) (by omega) (by omega)
  have e5 := step 5 (n + 6) (w / 65536) (z0 :: z1 :: z2 :: z3 :: z4 :: z5 :: (w / 256 % 256) :: (w % 256) :: rest) (by omega) (by simp) (by omega) (by omega)
  have e4 := step 4 (n + 5) (w / 16777216) (z0 :: z1 :: z2 :: z3 :: z4 :: (w / 65536 % 256) :: (w / 256 % 256) :: (w % 256) :: rest) (by omega) (by simp) (by omega) (by omega)
  have e3 := step 3 (n + 4) (w / 4294967296) (z0 :: z1 :: z2 :: z3 :: (w / 16777216 % 256) :: (w / 65536 % 256) :: (w / 256 % 256) :: (w % 256) :: rest) (by omega) (by simp) (by omega) (by omega)
  have e2 := step 2 (n + 3) (w / 1099511627776) (z0 :: z1 :: z2 :: (w / 4294967296 % 256) :: (w / 16777216 % 256) :: (w / 65536 % 256) :: (w / 256 % 256) :: (w % 256) :: rest) (by omega) (by simp) (by omega) (by omega)
  have e1 := step 1 (n + 2) (w / 281474976710656) (z0 :: z1 :: (w / 1099511627776 % 256) :: (w / 4294967296 % 256) :: (w / 16777216 % 256) :: (w / 65536 % 256) :: (w / 256 % 256) :: (w % 256) :: rest) (by omega) (by simp) (by omega) (by omega)
  have e0 := step 0 (n + 1) (w / 72057594037927936) (z0 :: (w / 281474976710656 % 256) :: (w / 1099511627776 % 256) :: (w / 4294967296 % 256) :: (w / 16777216 % 256) :: (w / 65536 % 256) :: (w / 256 % 256) :: (w % 256) :: rest) (by omega) (by simp) (by omega) (by omega)
  have q2 : w / 256 / 256 = w / 65536 := by omega
  have q3 : w / 65536 / 256 = w / 16777216 := by omega
  have q4 : w / 16777216 / 256 = w / 4294967296 := by omega
  have q5 : w / 4294967296 / 256 = w / 1099511627776 := by omega
  have q6 : w / 1099511627776 / 256 = w / 281474976710656 := by omega
  have q7 : w / 281474976710656 / 256 = w / 72057594037927936 := by omega
  rw [q2] at e6; rw [q3] at e5; rw [q4] at e4; rw [q5] at e3; rw [q6] at e2; rw [q7] at e1
  refine e7.trans (e6.trans (e5.trans (e4.trans (e3.trans (e2.trans (e1.trans (e0.trans ?_)))))))
  simp [m_ticketlineref14_Text_l1, m_ticketlineref14_Text_l1_b, w8]

theorem text_l0 (a : Int) (l : List Int) (hl : U64 l) (hlen : l.length ≤ 10000) (h0 : 0 ≤ a) : ∀ (n N i : Nat), 100000 < N → i ≤ l.length → l.length < i + n →
    m_ticketlineref14_Text_l0 N n l a i (b8 (l.take i) ++ List.replicate (8 * (l.length - i)) 0) = if a > 8 * l.length then some (⟨#[]⟩, false) else match U l a with | some s => some (s, true) | none => some (⟨#[]⟩, false) := by
  intro n
  induction n with
  | zero => intro N i h1 h2 h3; omega
  | succ n ih =>
    intro N i hN h2 h3
    simp only [m_ticketlineref14_Text_l0, m_ticketlineref14_Text_l0_b, rd_G]
    by_cases hi : i < l.length
    · have hg : G l (i : Int) = l[i] := by
        unfold G; rw [show (i : Int).toNat = i by omega, List.getD_eq_getElem?_getD, List.getElem?_eq_getElem hi]; rfl
      have hw := hl.G (i : Int)
      obtain ⟨m, hm⟩ : ∃ m, l.length - i = m + 1 := ⟨l.length - i - 1, by omega⟩
      have hr : List.replicate (8 * (l.length - i)) (0 : Int) = 0 :: 0 :: 0 :: 0 :: 0 :: 0 :: 0 :: 0 :: List.replicate (8 * (l.length - (i + 1))) 0 := by
        rw [hm, show l.length - (i + 1) = m by omega, show 8 * (m + 1) = 8 * m + 8 by omega]
        rfl
      have := ih N (i + 1) hN (by omega) (by omega)
      rw [hr, text_l1 N N _ l a i _ hw.1 hw.2 (by omega) (by omega) _ _ (by rw [b8_length, List.length_take]; omega), wI (by omega) (by omega)]
      simp only [show (i : Int) < l.length by omega, decide_true, if_true, Int.natCast_nonneg]
      rw [hg, show b8 (l.take i) ++ w8 l[i] = b8 (l.take (i + 1)) by rw [List.take_succ_eq_append_getElem hi, b8_append, b8_one]]
      exact_mod_cast this
    · have hil : i = l.length := by omega
      subst hil
      have hb : b8 (l.take l.length) ++ List.replicate (8 * (l.length - l.length)) 0 = b8 l := by simp
      rw [hb]
      have hbl : ((b8 l).length : Int) = 8 * l.length := by rw [b8_length]; omega
      simp only [Int.lt_irrefl, decide_false, Bool.false_eq_true, if_false, hbl]
      by_cases ha : a > 8 * (l.length : Int)
      · simp [ha]
      · simp only [ha, decide_false, Bool.false_eq_true, if_false]
        have := text_l2 N N a.toNat a (b8 l) h0 (by omega) (by omega) (by omega) (by omega)
        rw [show ((a.toNat : Nat) : Int) = a by omega] at this
        refine this.trans ?_
        unfold U
        split <;> simp_all

/-- the reference's text of some bytes of words, and whether all other bytes are 0 -/
theorem ref14_Text (l : List Int) (n : Int) (hl : U64 l) (hlen : l.length ≤ 10000) (h0 : 0 ≤ n) : m_ticketlineref14_Text l n = some (
    if n > 8 * l.length then (⟨#[]⟩, false) else match U l n with | some s => (s, true) | none => (⟨#[]⟩, false)) := by
  unfold m_ticketlineref14_Text m_ticketlineref14_Text_a
  dsimp only
  rw [wI (by omega) (by omega)]
  have h4 := text_l0 n l hl hlen h0 FUEL FUEL 0 (by have := FUEL_big; omega) (by omega) (by have := FUEL_big; omega)
  have hf : fits (8 * (l.length : Int)).toNat 1 := by unfold fits; omega
  simp only [show (0 : Int) ≤ 8 * (l.length : Int) by omega, Int.le_refl, if_true, hf]
  rw [show (8 * (l.length : Int)).toNat = 8 * (l.length - 0) by omega]
  refine Eq.trans (by simpa [b8] using h4) ?_
  split
  · rfl
  · split <;> simp_all
end Go.Ev.L
