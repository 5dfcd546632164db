/- Law 05: the words of strings, the strings of words. -/
import Derived.Test.YtmageoiakgcgmaaK2
set_option linter.unusedVariables false
set_option linter.unusedSimpArgs false
set_option maxRecDepth 10000
namespace Go.Ev.L
open Go Go.Ev Go.Ev.M

/-- the word of eight bytes -/
def wd (f : Nat → Int) (j : Nat) : Int := 72057594037927936 * f (8 * j) + 281474976710656 * f (8 * j + 1) + 1099511627776 * f (8 * j + 2) + 4294967296 * f (8 * j + 3) + 16777216 * f (8 * j + 4) + 65536 * f (8 * j + 5) + 256 * f (8 * j + 6) + f (8 * j + 7)
theorem part_wd (s : ByteArray) (j : Nat) : part s j 8 = wd (B s) j := by
  simp only [part, Nat.add_zero, wd]; omega
theorem wd_congr {f g : Nat → Int} {j : Nat} (h : ∀ x, 8 * j ≤ x → x < 8 * j + 8 → f x = g x) : wd f j = wd g j := by
  unfold wd
  rw [h (8 * j) (by omega) (by omega), h (8 * j + 1) (by omega) (by omega), h (8 * j + 2) (by omega) (by omega), h (8 * j + 3) (by omega) (by omega), h (8 * j + 4) (by omega) (by omega), h (8 * j + 5) (by omega) (by omega), h (8 * j + 6) (by omega) (by omega), h (8 * j + 7) (by omega) (by omega)]
theorem wd_range {f : Nat → Int} (h : ∀ x, 0 ≤ f x ∧ f x < 256) (j : Nat) : 0 ≤ wd f j ∧ wd f j < 18446744073709551616 := by
  have h0 := h (8 * j)
  have h1 := h (8 * j + 1)
  have h2 := h (8 * j + 2)
  have h3 := h (8 * j + 3)
  have h4 := h (8 * j + 4)
  have h5 := h (8 * j + 5)
  have h6 := h (8 * j + 6)
  have h7 := h (8 * j + 7)
  unfold wd; omega
def Bi (s : ByteArray) (i x : Nat) : Int := if x < i then B s x else 0
theorem Bi_range (s : ByteArray) (i x : Nat) : 0 ≤ Bi s i x ∧ Bi s i x < 256 := by
  unfold Bi; split
  · exact B_range s x
  · omega
theorem Bi_in {s : ByteArray} {i x : Nat} (h : x < i) : Bi s i x = B s x := if_pos h
theorem Bi_out {s : ByteArray} {i x : Nat} (h : i ≤ x) : Bi s i x = 0 := if_neg (by omega)
theorem wd_step (s : ByteArray) (i : Nat) : wd (Bi s (i + 1)) (i / 8) = wd (Bi s i) (i / 8) + B s i * 256 ^ (7 - i % 8) := by
  obtain ⟨q, r, hr, rfl⟩ : ∃ q r, r < 8 ∧ i = 8 * q + r := ⟨i / 8, i % 8, by omega, by omega⟩
  rw [show (8 * q + r) / 8 = q by omega, show (8 * q + r) % 8 = r by omega]
  rcases (by omega : r = 0 ∨ r = 1 ∨ r = 2 ∨ r = 3 ∨ r = 4 ∨ r = 5 ∨ r = 6 ∨ r = 7) with rfl | rfl | rfl | rfl | rfl | rfl | rfl | rfl
  · have p : (256 : Int) ^ (7 - 0) = 72057594037927936 := by decide
    rw [p]; unfold wd
    simp (disch := omega) only [Bi_in, Bi_out]; simp only [Nat.add_zero]; omega
  · have p : (256 : Int) ^ (7 - 1) = 281474976710656 := by decide
    rw [p]; unfold wd
    simp (disch := omega) only [Bi_in, Bi_out]; omega
  · have p : (256 : Int) ^ (7 - 2) = 1099511627776 := by decide
    rw [p]; unfold wd
    simp (disch := omega) only [Bi_in, Bi_out]; omega
  · have p : (256 : Int) ^ (7 - 3) = 4294967296 := by decide
    rw [p]; unfold wd
    simp (disch := omega) only [Bi_in, Bi_out]; omega
  · have p : (256 : Int) ^ (7 - 4) = 16777216 := by decide
    rw [p]; unfold wd
    simp (disch := omega) only [Bi_in, Bi_out]; omega
  · have p : (256 : Int) ^ (7 - 5) = 65536 := by decide
    rw [p]; unfold wd
    simp (disch := omega) only [Bi_in, Bi_out]; omega
  · have p : (256 : Int) ^ (7 - 6) = 256 := by decide
    rw [p]; unfold wd
    simp (disch := omega) only [Bi_in, Bi_out]; omega
  · have p : (256 : Int) ^ (7 - 7) = 1 := by decide
    rw [p]; unfold wd
    simp (disch := omega) only [Bi_in, Bi_out]; omega
/-- the words of the first i bytes -/
def pkI (s : ByteArray) (i : Nat) : List Int := (List.range ((i + 7) / 8)).map (wd (Bi s i))
theorem pkI_all (s : ByteArray) : pkI s s.size = packS s := by
  unfold pkI packS
  have hW : (W s.size).toNat = (s.size + 7) / 8 := by unfold W; split <;> omega
  rw [hW]
  refine List.map_congr_left fun j _ => ?_
  rw [part_wd]
  refine wd_congr fun x _ _ => ?_
  unfold Bi; split
  · rfl
  · rw [B_out (by omega)]
theorem pow256 (d : Nat) : (1 : Int) ≤ 256 ^ d := by
  induction d with
  | zero => decide
  | succ d ih => rw [Int.pow_succ]; omega

theorem refPack05_l1 (N : Nat) (s0 : ByteArray → Int → (List Int) → Option (List Int)) (s : ByteArray) (i : Nat) (hi : i ≤ 100000) (out : List Int) (ho : i / 8 < out.length) : ∀ (d n k : Nat) (w : Int), k + d = 7 → d < n → 0 ≤ w → w * 256 ^ d < 18446744073709551616 →
    m_ticketlineref05_Pack_l1 N s0 n s i w k out = s0 s ((i + 1 : Nat) : Int) (out.set (i / 8) (IntKind.u64.wrap (G out ((i / 8 : Nat) : Int) + w * 256 ^ d))) := by
  intro d
  induction d with
  | zero =>
    intro n k w hk hn h0 h1
    obtain ⟨n, rfl⟩ : ∃ q, n = q + 1 := ⟨n - 1, by omega⟩
    obtain rfl : k = 7 := by omega
    have w1 : IntKind.i64.wrap ((i : Int) + 1) = ((i + 1 : Nat) : Int) := by rw [wI (by omega) (by omega)]; omega
    have w3 : IntKind.i64.wrap (Int.tdiv (i : Int) 8) = ((i / 8 : Nat) : Int) := by rw [td8 (by omega), wI (by omega) (by omega)]; omega
    have c2 : ((i / 8 : Nat) : Int) < (out.length : Int) := by omega
    simp only [m_ticketlineref05_Pack_l1, m_ticketlineref05_Pack_l1_b, show ¬ ((7 : Nat) : Int) < 7 by omega, decide_false, Bool.false_eq_true, if_false, w1, w3, c2, if_true, Int.natCast_nonneg, Int.toNat_natCast, rd_G, Int.pow_zero, Int.mul_one]
  | succ d ih =>
    intro n k w hk hn h0 h1
    obtain ⟨n, rfl⟩ : ∃ q, n = q + 1 := ⟨n - 1, by omega⟩
    have e : w * 256 ^ (d + 1) = w * 256 * 256 ^ d := by rw [Int.pow_succ, Int.mul_comm (256 ^ d) 256, Int.mul_assoc]
    have hp := pow256 d
    have hle : w * 256 * 1 ≤ w * 256 * 256 ^ d := Int.mul_le_mul_of_nonneg_left hp (by omega)
    have w1 : IntKind.u64.wrap (w * 256) = w * 256 := wU (by omega) (by rw [e] at h1; omega)
    have w2 : IntKind.i64.wrap ((k : Int) + 1) = ((k + 1 : Nat) : Int) := by rw [wI (by omega) (by omega)]; omega
    have IH := ih n (k + 1) (w * 256) (by omega) (by omega) (by omega) (by rw [← e]; exact h1)
    simp only [m_ticketlineref05_Pack_l1, m_ticketlineref05_Pack_l1_b, show (k : Int) < 7 by omega, decide_true, if_true, w1, w2, IH, e]

theorem refPack05_l0 {s : ByteArray} (hs : s.size ≤ 1000) : ∀ (m n N i : Nat), 100 < N → i + m = s.size → m < n → m_ticketlineref05_Pack_l0 N n s i (pkI s i) = some (packS s) := by
  intro m
  induction m with
  | zero =>
    intro n N i hN hm hn
    obtain ⟨n, rfl⟩ : ∃ q, n = q + 1 := ⟨n - 1, by omega⟩
    obtain rfl : i = s.size := by omega
    simp only [m_ticketlineref05_Pack_l0, m_ticketlineref05_Pack_l0_b, Int.lt_irrefl, decide_false, Bool.false_eq_true, if_false, pkI_all]
  | succ m ih =>
    intro n N i hN hm hn
    obtain ⟨n, rfl⟩ : ∃ q, n = q + 1 := ⟨n - 1, by omega⟩
    have IH := ih n N (i + 1) hN (by omega) (by omega)
    have hc : (i : Int) < (s.size : Int) := by omega
    have hB := B_range s i
    have w5 : IntKind.u64.wrap (bt s i) = B s i := by rw [bt_B, Int.toNat_natCast, wU (by omega) (by omega)]
    have tm : Int.tmod (i : Int) 8 = ((i % 8 : Nat) : Int) := by rw [Int.tmod_eq_emod_of_nonneg (by omega)]; omega
    -- the words behind the append
    let out := (List.range (i / 8 + 1)).map (wd (Bi s i))
    have hout : out = (if i % 8 = 0 then pkI s i ++ [0] else pkI s i) := by
      by_cases h : i % 8 = 0
      · rw [if_pos h]
        show (List.range (i / 8 + 1)).map (wd (Bi s i)) = (List.range ((i + 7) / 8)).map (wd (Bi s i)) ++ [0]
        rw [show (i + 7) / 8 = i / 8 by omega, List.range_succ, List.map_append]
        congr 1
        show [wd (Bi s i) (i / 8)] = [0]
        congr 1
        unfold wd
        simp (disch := omega) only [Bi_out]; rfl
      · rw [if_neg h]
        show (List.range (i / 8 + 1)).map (wd (Bi s i)) = (List.range ((i + 7) / 8)).map (wd (Bi s i))
        rw [show (i + 7) / 8 = i / 8 + 1 by omega]
    have hol : out.length = i / 8 + 1 := by simp [out]
    have hG : G out ((i / 8 : Nat) : Int) = wd (Bi s i) (i / 8) := by
      rw [G_get (by omega)]; simp [out]
    have hp8 : (256 : Int) ^ (7 - i % 8) ≤ 256 ^ 7 := by
      rcases (by omega : i % 8 = 0 ∨ i % 8 = 1 ∨ i % 8 = 2 ∨ i % 8 = 3 ∨ i % 8 = 4 ∨ i % 8 = 5 ∨ i % 8 = 6 ∨ i % 8 = 7) with h | h | h | h | h | h | h | h <;> rw [h] <;> decide
    have h7 : (256 : Int) ^ 7 = 72057594037927936 := by decide
    have hmul : B s i * 256 ^ (7 - i % 8) ≤ 255 * 256 ^ 7 := Int.mul_le_mul (by omega) hp8 (by have := pow256 (7 - i % 8); omega) (by omega)
    have L1 := refPack05_l1 N (m_ticketlineref05_Pack_l0 N n) s i (by omega) out (by omega) (7 - i % 8) N (i % 8) (B s i) (by omega) (by omega) (by omega) (by omega)
    have hset : out.set (i / 8) (IntKind.u64.wrap (G out ((i / 8 : Nat) : Int) + B s i * 256 ^ (7 - i % 8))) = pkI s (i + 1) := by
      rw [hG, ← wd_step]
      have hr := wd_range (Bi_range s (i + 1)) (i / 8)
      rw [wU hr.1 hr.2]
      refine List.ext_getElem (by simp [pkI, hol]; omega) fun j h1 h2 => ?_
      have hj : j < i / 8 + 1 := by simpa [hol] using h1
      rw [List.getElem_set]
      by_cases e : i / 8 = j
      · subst e; rw [if_pos rfl]; simp [pkI]
      · rw [if_neg e]
        simp only [out, pkI, List.getElem_map, List.getElem_range]
        refine wd_congr fun x hx1 hx2 => ?_
        rw [Bi_in (by omega), Bi_in (by omega)]
    rw [hset] at L1
    have L2 := L1.trans IH
    simp only [m_ticketlineref05_Pack_l0, m_ticketlineref05_Pack_l0_b, hc, decide_true, if_true, tm, Int.natCast_nonneg, w5]
    by_cases h : i % 8 = 0
    · rw [if_pos h] at hout
      have hz : (((i % 8 : Nat) : Int) == 0) = true := by rw [h]; rfl
      have hf : fits ((pkI s i).length + [(0 : Int)].length) 8 := by
        unfold fits; unfold pkI; simp; omega
      rw [hout] at L2
      simp only [hz, if_true, hf, L2]
    · rw [if_neg h] at hout
      have hz : (((i % 8 : Nat) : Int) == 0) = false := by
        rw [Bool.eq_false_iff]; intro hh; rw [beq_iff_eq] at hh; omega
      rw [hout] at L2
      simp only [hz, Bool.false_eq_true, if_false, L2]
theorem ref05_Pack {s : ByteArray} (hs : s.size ≤ 1000) : m_ticketlineref05_Pack s = some (packS s) := by
  have := refPack05_l0 hs s.size FUEL FUEL 0 (by have := FUEL_big; omega) (by omega) (by have := FUEL_big; omega)
  unfold m_ticketlineref05_Pack m_ticketlineref05_Pack_a
  exact_mod_cast this

theorem w8_inj {w v : Int} (h0 : 0 ≤ w) (h1 : w < 18446744073709551616) (h2 : 0 ≤ v) (h3 : v < 18446744073709551616) (h : w8 w = w8 v) : w = v := by
  simp only [w8, List.cons.injEq, and_true] at h
  obtain ⟨a0, a1, a2, a3, a4, a5, a6, a7⟩ := h
  have e : ∀ x : Int, 0 ≤ x → x < 18446744073709551616 → x = 72057594037927936 * (x / 72057594037927936 % 256) + 281474976710656 * (x / 281474976710656 % 256) + 1099511627776 * (x / 1099511627776 % 256) + 4294967296 * (x / 4294967296 % 256) + 16777216 * (x / 16777216 % 256) + 65536 * (x / 65536 % 256) + 256 * (x / 256 % 256) + x % 256 := by
    intro x hx hx'; omega
  rw [e w h0 h1, e v h2 h3, a0, a1, a2, a3, a4, a5, a6, a7]
theorem b8_inj : ∀ {l m : List Int}, U64 l → U64 m → b8 l = b8 m → l = m := by
  intro l
  induction l with
  | nil =>
    intro m _ _ h
    cases m with
    | nil => rfl
    | cons v m => have := congrArg List.length h; rw [b8_length, b8_length] at this; simp at this
  | cons w l ih =>
    intro m hl hm h
    cases m with
    | nil => have := congrArg List.length h; rw [b8_length, b8_length] at this; simp at this
    | cons v m =>
      have h : w8 w ++ b8 l = w8 v ++ b8 m := h
      have h12 := List.append_inj h rfl
      have hw := hl w (List.mem_cons_self ..)
      have hv := hm v (List.mem_cons_self ..)
      rw [w8_inj hw.1 hw.2 hv.1 hv.2 h12.1, ih (fun x hx => hl x (List.mem_cons_of_mem _ hx)) (fun x hx => hm x (List.mem_cons_of_mem _ hx)) h12.2]
theorem w8_byte (w : Int) : ∀ x, x ∈ w8 w → 0 ≤ x ∧ x < 256 := by
  intro x hx
  simp only [w8, List.mem_cons, List.not_mem_nil, or_false] at hx
  rcases hx with h | h | h | h | h | h | h | h <;> omega
theorem b8_byte (l : List Int) : ∀ x, x ∈ b8 l → 0 ≤ x ∧ x < 256 := by
  intro x hx
  obtain ⟨w, _, h⟩ := List.mem_flatMap.1 hx
  exact w8_byte w x h
theorem b8_get : ∀ (l : List Int) (q r : Nat), r < 8 → q < l.length → (b8 l).getD (8 * q + r) 0 = l.getD q 0 / 256 ^ (7 - r) % 256 := by
  intro l
  induction l with
  | nil => intro q r _ h; simp at h
  | cons w l ih =>
    intro q r hr hq
    have hb : b8 (w :: l) = w8 w ++ b8 l := rfl
    rw [hb]
    cases q with
    | zero =>
      rcases (by omega : r = 0 ∨ r = 1 ∨ r = 2 ∨ r = 3 ∨ r = 4 ∨ r = 5 ∨ r = 6 ∨ r = 7) with rfl | rfl | rfl | rfl | rfl | rfl | rfl | rfl
      · show w / 72057594037927936 % 256 = w / 256 ^ 7 % 256
        rw [show (256 : Int) ^ 7 = 72057594037927936 by decide]
      · show w / 281474976710656 % 256 = w / 256 ^ 6 % 256
        rw [show (256 : Int) ^ 6 = 281474976710656 by decide]
      · show w / 1099511627776 % 256 = w / 256 ^ 5 % 256
        rw [show (256 : Int) ^ 5 = 1099511627776 by decide]
      · show w / 4294967296 % 256 = w / 256 ^ 4 % 256
        rw [show (256 : Int) ^ 4 = 4294967296 by decide]
      · show w / 16777216 % 256 = w / 256 ^ 3 % 256
        rw [show (256 : Int) ^ 3 = 16777216 by decide]
      · show w / 65536 % 256 = w / 256 ^ 2 % 256
        rw [show (256 : Int) ^ 2 = 65536 by decide]
      · show w / 256 % 256 = w / 256 ^ 1 % 256
        rw [show (256 : Int) ^ 1 = 256 by decide]
      · show w % 256 = w / 256 ^ 0 % 256
        rw [Int.pow_zero, Int.ediv_one]
    | succ q =>
      rw [List.getD_eq_getElem?_getD, List.getElem?_append_right (by rw [w8_length]; omega), w8_length, show 8 * (q + 1) + r - 8 = 8 * q + r by omega, ← List.getD_eq_getElem?_getD, ih q r hr (by simpa using hq), List.getD_cons_succ]
theorem B_strOf' {l : List Int} (h : ∀ x, x ∈ l → 0 ≤ x ∧ x < 256) (j : Nat) : B (strOf l) j = l.getD j 0 := by
  unfold B strOf
  simp only [List.getD_eq_getElem?_getD, List.getElem?_map]
  cases e : l[j]? with
  | none => simp
  | some x =>
    have hx := h x (List.mem_of_getElem? e)
    simp; omega
/-- the words of these bytes are those words if all other bytes are 0 -/
theorem pack_iff {l : List Int} (hl : U64 l) {n : Nat} (hn : (l.length : Int) = W n) : packS (strOf ((b8 l).take n)) = l ↔ zeroFrom (b8 l) n = true := by
  have hW := W_le (n := (n : Int)) (by omega)
  have hbl : (b8 l).length = 8 * l.length := b8_length l
  have hs : (strOf ((b8 l).take n)).size = n := by rw [strOf_size, List.length_take]; omega
  have hb : b8 (packS (strOf ((b8 l).take n))) = (List.range (8 * l.length)).map (B (strOf ((b8 l).take n))) := by
    rw [b8_pack, hs, ← hn, Int.toNat_natCast]
  have hB : ∀ j, B (strOf ((b8 l).take n)) j = ((b8 l).take n).getD j 0 := fun j => B_strOf' (fun x hx => b8_byte l x (List.mem_of_mem_take hx)) j
  have key : packS (strOf ((b8 l).take n)) = l ↔ ∀ j, n ≤ j → j < 8 * l.length → (b8 l).getD j 0 = 0 := by
    constructor
    · intro h j h1 h2
      rw [h] at hb
      have hz : B (strOf ((b8 l).take n)) j = 0 := B_out (by omega)
      rw [hb, List.getD_eq_getElem?_getD, List.getElem?_map, List.getElem?_range h2]
      simpa using hz
    · intro h
      refine b8_inj (packS_u64 _) hl ?_
      rw [hb]
      refine List.ext_getElem? fun j => ?_
      by_cases c : j < 8 * l.length
      · rw [List.getElem?_map, List.getElem?_range c, Option.map_some, hB]
        have hj : j < (b8 l).length := by omega
        rw [List.getD_eq_getElem?_getD, List.getElem?_take]
        by_cases c2 : j < n
        · rw [if_pos c2, List.getElem?_eq_getElem hj]; rfl
        · rw [if_neg c2]
          have := h j (by omega) c
          rw [List.getD_eq_getElem?_getD, List.getElem?_eq_getElem hj] at this
          rw [List.getElem?_eq_getElem hj]
          simp only [Option.getD_some, Option.getD_none] at this ⊢
          rw [this]
      · rw [List.getElem?_eq_none (by simp; omega), List.getElem?_eq_none (by omega)]
  rw [key]
  unfold zeroFrom
  rw [List.all_eq_true]
  constructor
  · intro h x hx
    obtain ⟨i, hi⟩ := List.getElem?_of_mem hx
    rw [List.getElem?_drop] at hi
    have h1 := (List.getElem?_eq_some_iff.1 hi).1
    have := h (n + i) (by omega) (by omega)
    rw [List.getD_eq_getElem?_getD, hi] at this
    simpa using this
  · intro h j h1 h2
    have h3 : j < (b8 l).length := by omega
    have h4 : (b8 l)[j] ∈ (b8 l).drop n := by
      refine List.mem_of_getElem? (i := j - n) ?_
      rw [List.getElem?_drop, show n + (j - n) = j by omega, List.getElem?_eq_getElem h3]
    have := h _ h4
    rw [List.getD_eq_getElem?_getD, List.getElem?_eq_getElem h3]
    simpa using this

theorem unpack05_l1 (N : Nat) (s0 : (List Int) → Int → Int → (List Int) → Option (ByteArray × Int)) (l : List Int) (a : Int) (i : Nat) (hi : i ≤ 100000) (out : List Int) (ho : out.length ≤ 100000) : ∀ (d n k : Nat) (w : Int), k + d = 7 → d < n → 0 ≤ w → w < 18446744073709551616 →
    m_ticketlineref05_Unpack_l1 N s0 n l a i w k out = s0 l a ((i + 1 : Nat) : Int) (out ++ [w / 256 ^ d % 256]) := by
  intro d
  induction d with
  | zero =>
    intro n k w hk hn h0 h1
    obtain ⟨n, rfl⟩ : ∃ q, n = q + 1 := ⟨n - 1, by omega⟩
    obtain rfl : k = 7 := by omega
    have w1 : IntKind.i64.wrap ((i : Int) + 1) = ((i + 1 : Nat) : Int) := by rw [wI (by omega) (by omega)]; omega
    have w2 : IntKind.u8.wrap (Int.tmod w 256) = w % 256 := by rw [Int.tmod_eq_emod_of_nonneg h0, wB (by omega) (by omega)]
    have hf : fits (out.length + [w % 256].length) 1 := by unfold fits; simp; omega
    simp only [m_ticketlineref05_Unpack_l1, m_ticketlineref05_Unpack_l1_b, show ¬ ((7 : Nat) : Int) < 7 by omega, decide_false, Bool.false_eq_true, if_false, w1, w2, hf, if_true, Int.pow_zero, Int.ediv_one]
  | succ d ih =>
    intro n k w hk hn h0 h1
    obtain ⟨n, rfl⟩ : ∃ q, n = q + 1 := ⟨n - 1, by omega⟩
    have w1 : IntKind.u64.wrap (Int.tdiv w 256) = w / 256 := by rw [Int.tdiv_eq_ediv_of_nonneg h0, wU (by omega) (by omega)]
    have w2 : IntKind.i64.wrap ((k : Int) + 1) = ((k + 1 : Nat) : Int) := by rw [wI (by omega) (by omega)]; omega
    have IH := ih n (k + 1) (w / 256) (by omega) (by omega) (by omega) (by omega)
    have e : w / 256 / 256 ^ d = w / 256 ^ (d + 1) := by
      rw [Int.ediv_ediv_of_nonneg (by omega), Int.pow_succ, Int.mul_comm]
    simp only [m_ticketlineref05_Unpack_l1, m_ticketlineref05_Unpack_l1_b, show (k : Int) < 7 by omega, decide_true, if_true, w1, w2, IH, e]
theorem unpack05_l2 {l p out : List Int} (hl : l.length ≤ 1000) (hp : p.length = l.length) : ∀ (m n N i : Nat), i + m = l.length → m < n → (p.take i = l.take i) →
    m_ticketlineref05_Unpack_l2 N n l i out p = some (if p = l then (strOf out, (0 : Int)) else (⟨#[]⟩, 12)) := by
  intro m
  induction m with
  | zero =>
    intro n N i hm hn ht
    obtain ⟨n, rfl⟩ : ∃ q, n = q + 1 := ⟨n - 1, by omega⟩
    have hc : ¬ (i : Int) < (l.length : Int) := by omega
    have : p = l := by rw [List.take_of_length_le (by omega), List.take_of_length_le (by omega)] at ht; exact ht
    simp only [m_ticketlineref05_Unpack_l2, m_ticketlineref05_Unpack_l2_b, hc, decide_false, Bool.false_eq_true, if_false, this, if_true]
  | succ m ih =>
    intro n N i hm hn ht
    obtain ⟨n, rfl⟩ : ∃ q, n = q + 1 := ⟨n - 1, by omega⟩
    have hc : (i : Int) < (l.length : Int) := by omega
    have hc' : (i : Int) < (p.length : Int) := by omega
    have w1 : IntKind.i64.wrap ((i : Int) + 1) = ((i + 1 : Nat) : Int) := by rw [wI (by omega) (by omega)]; omega
    have g1 : G l (i : Int) = l[i]'(by omega) := G_get (by omega)
    have g2 : G p (i : Int) = p[i]'(by omega) := G_get (by omega)
    simp only [m_ticketlineref05_Unpack_l2, m_ticketlineref05_Unpack_l2_b, hc, hc', decide_true, if_true, Int.natCast_nonneg, rd_G, g1, g2, w1]
    by_cases e : p[i]'(by omega) = l[i]'(by omega)
    · rw [if_neg (by rw [e]; simp), ih n N (i + 1) (by omega) (by omega)]
      rw [List.take_succ_eq_append_getElem (by omega), List.take_succ_eq_append_getElem (by omega), ht, e]
    · rw [if_pos (by simpa using e), if_neg]
      intro h; subst h; exact e rfl
theorem unpack05_l0 {l : List Int} (hl : U64 l) (hlen : l.length ≤ 100) {a : Nat} (ha : (l.length : Int) = W a) : ∀ (m n N i : Nat), 2000 < N → i + m = a → m < n →
    m_ticketlineref05_Unpack_l0 N n l a i ((b8 l).take i) = some (if zeroFrom (b8 l) a = true then (strOf ((b8 l).take a), (0 : Int)) else (⟨#[]⟩, 12)) := by
  have hW := W_le (n := (a : Int)) (by omega)
  have hbl : (b8 l).length = 8 * l.length := b8_length l
  intro m
  induction m with
  | zero =>
    intro n N i hN hm hn
    obtain ⟨n, rfl⟩ : ∃ q, n = q + 1 := ⟨n - 1, by omega⟩
    obtain rfl : i = a := by omega
    have hs : (strOf ((b8 l).take i)).size = i := by rw [strOf_size, List.length_take]; omega
    have hpl : (packS (strOf ((b8 l).take i))).length = l.length := by rw [packS_length, hs]; omega
    have L2 := unpack05_l2 (l := l) (p := packS (strOf ((b8 l).take i))) (out := (b8 l).take i) (by omega) hpl l.length N N 0 (by omega) (by omega) rfl
    have hP := ref05_Pack (s := strOf ((b8 l).take i)) (by omega)
    have L2 : m_ticketlineref05_Unpack_l2 N N l 0 ((b8 l).take i) (packS (strOf ((b8 l).take i))) = _ := L2
    simp only [m_ticketlineref05_Unpack_l0, m_ticketlineref05_Unpack_l0_b, Int.lt_irrefl, decide_false, Bool.false_eq_true, if_false, hP, Option.bind_some, L2]
    congr 1
    have := pack_iff hl ha
    by_cases h : zeroFrom (b8 l) i = true
    · rw [if_pos h, if_pos (this.2 h)]
    · rw [if_neg h, if_neg (fun h' => h (this.1 h'))]
  | succ m ih =>
    intro n N i hN hm hn
    obtain ⟨n, rfl⟩ : ∃ q, n = q + 1 := ⟨n - 1, by omega⟩
    have IH := ih n N (i + 1) hN (by omega) (by omega)
    have hc : (i : Int) < (a : Int) := by omega
    have tm : Int.tmod (i : Int) 8 = ((i % 8 : Nat) : Int) := by rw [Int.tmod_eq_emod_of_nonneg (by omega)]; omega
    have w3 : IntKind.i64.wrap (Int.tdiv (i : Int) 8) = ((i / 8 : Nat) : Int) := by rw [td8 (by omega), wI (by omega) (by omega)]; omega
    have c2 : ((i / 8 : Nat) : Int) < (l.length : Int) := by omega
    have hg := hl.G ((i / 8 : Nat) : Int)
    have L1 := unpack05_l1 N (m_ticketlineref05_Unpack_l0 N n) l a i (by omega) ((b8 l).take i) (by rw [List.length_take]; omega) (7 - i % 8) N (i % 8) (G l ((i / 8 : Nat) : Int)) (by omega) (by omega) hg.1 hg.2
    have ht : (b8 l).take i ++ [G l ((i / 8 : Nat) : Int) / 256 ^ (7 - i % 8) % 256] = (b8 l).take (i + 1) := by
      have h1 : i < (b8 l).length := by omega
      rw [List.take_succ_eq_append_getElem h1]
      have h2 := b8_get l (i / 8) (i % 8) (by omega) (by omega)
      rw [show 8 * (i / 8) + i % 8 = i by omega, List.getD_eq_getElem?_getD, List.getElem?_eq_getElem h1, Option.getD_some] at h2
      rw [h2]; rfl
    rw [ht] at L1
    simp only [m_ticketlineref05_Unpack_l0, m_ticketlineref05_Unpack_l0_b, hc, decide_true, if_true, w3, c2, Int.natCast_nonneg, tm, rd_G, L1, IH]

theorem ref05_Words {n : Int} (h : n < 9223372036854775808) : m_ticketlineref05_Words n = some (W n) := by
  unfold m_ticketlineref05_Words W
  by_cases h0 : n < 1
  · simp only [h0, decide_true, if_true, show n ≤ 0 by omega]
  · have t1 : Int.tmod n 8 = n % 8 := Int.tmod_eq_emod_of_nonneg (by omega)
    have w1 : IntKind.i64.wrap (Int.tdiv n 8) = n / 8 := by rw [td8 (by omega), wI (by omega) (by omega)]
    simp only [h0, decide_false, Bool.false_eq_true, if_false, t1, w1, show ¬ n ≤ 0 by omega]
    by_cases h1 : n % 8 = 0
    · rw [if_pos (by rw [h1]; rfl)]; congr 1; omega
    · rw [if_neg (by intro hh; rw [beq_iff_eq] at hh; exact h1 hh), wI (by omega) (by omega)]; congr 1; omega
def unpR (l : List Int) (n : Int) : ByteArray × Int := if n < 0 then (⟨#[]⟩, 2) else if n > 40 then (⟨#[]⟩, 5) else if (l.length : Int) ≠ W n then (⟨#[]⟩, 12) else match U l n with | some s => (s, 0) | none => (⟨#[]⟩, 12)
theorem keys_Unpack' {l : List Int} (hl : U64 l) (hlen : l.length ≤ 1000) (n : Int) : m_keys_Unpack l n = some (unpR l n) := by
  rw [keys_Unpack l n hl (by omega)]; rfl
theorem ref05_Unpack {l : List Int} (hl : U64 l) (hlen : l.length ≤ 100) (n : Int) : m_ticketlineref05_Unpack l n = some (unpR l n) := by
  unfold unpR
  unfold m_ticketlineref05_Unpack m_ticketlineref05_Unpack_a
  by_cases h1 : n < 0
  · simp [h1]
  by_cases h2 : n > 40
  · simp [h1, h2]
  simp only [h1, h2, decide_false, Bool.false_eq_true, if_false]
  rw [ref05_Words (by omega)]
  by_cases h3 : (l.length : Int) = W n
  · have h4 := unpack05_l0 hl hlen (a := n.toNat) (by rw [Int.toNat_of_nonneg (by omega)]; exact h3) n.toNat FUEL FUEL 0 (by have := FUEL_big; omega) (by omega) (by have := FUEL_big; omega)
    rw [Int.toNat_of_nonneg (by omega)] at h4
    simp only [Option.bind_some, h3, bne_self_eq_false, Bool.false_eq_true, if_false, ne_eq, not_true]
    have h4 : m_ticketlineref05_Unpack_l0 FUEL FUEL l n 0 [] = _ := h4
    rw [h4]
    unfold U
    by_cases hz : zeroFrom (b8 l) n.toNat = true
    · rw [if_pos hz, if_pos hz]
    · rw [if_neg hz, if_neg hz]
  · simp [h3]

theorem same05_l0 {l : List Int} (hl : l.length ≤ 1000) : ∀ (m n N i : Nat), i + m = l.length → m < n → m_ticketlineref05_Same_l0 N n l l i = some true := by
  intro m
  induction m with
  | zero =>
    intro n N i hm hn
    obtain ⟨n, rfl⟩ : ∃ q, n = q + 1 := ⟨n - 1, by omega⟩
    have hc : ¬ (i : Int) < (l.length : Int) := by omega
    simp only [m_ticketlineref05_Same_l0, m_ticketlineref05_Same_l0_b, hc, decide_false, Bool.false_eq_true, if_false]
  | succ m ih =>
    intro n N i hm hn
    obtain ⟨n, rfl⟩ : ∃ q, n = q + 1 := ⟨n - 1, by omega⟩
    have hc : (i : Int) < (l.length : Int) := by omega
    have w1 : IntKind.i64.wrap ((i : Int) + 1) = ((i + 1 : Nat) : Int) := by rw [wI (by omega) (by omega)]; omega
    simp only [m_ticketlineref05_Same_l0, m_ticketlineref05_Same_l0_b, hc, decide_true, if_true, Int.natCast_nonneg, bne_self_eq_false, Bool.false_eq_true, if_false, w1, ih n N (i + 1) (by omega) (by omega)]
theorem same05 {l : List Int} (hl : l.length ≤ 1000) : m_ticketlineref05_Same l l = some true := by
  have := same05_l0 hl l.length FUEL FUEL 0 (by omega) (by have := FUEL_big; omega)
  unfold m_ticketlineref05_Same m_ticketlineref05_Same_a
  simp only [bne_self_eq_false, Bool.false_eq_true, if_false]
  exact_mod_cast this
theorem packs05 {s : ByteArray} {l : List Int} {e : Int} (hl : l.length ≤ 1000) (h : (if s.size ≤ 40 then (packS s, (0 : Int)) else ([], 5)) = (l, e)) : m_ticketlinelaw05_packs s l e = some true := by
  unfold m_ticketlinelaw05_packs
  rw [keys_Pack, h]
  simp only [Option.bind_some, same05 hl, if_true, beq_self_eq_true]
theorem unpacks05 {l : List Int} (hl : U64 l) (hlen : l.length ≤ 1000) {n : Int} {s : ByteArray} {e : Int} (h : unpR l n = (s, e)) : m_ticketlinelaw05_unpacks l n s e = some true := by
  unfold m_ticketlinelaw05_unpacks
  rw [keys_Unpack' hl hlen, h]
  simp only [Option.bind_some, strEq_refl, if_true, beq_self_eq_true]
theorem unpacks_pack {s : ByteArray} (hs : s.size ≤ 40) : m_ticketlinelaw05_unpacks (packS s) (s.size : Int) s 0 = some true := by
  have hW := W_le (n := (s.size : Int)) (by omega)
  refine unpacks05 (packS_u64 s) (by rw [packS_length]; omega) ?_
  have h0 := W_nonneg (s.size : Int)
  unfold unpR
  rw [if_neg (by omega), if_neg (by omega), if_neg (by rw [packS_length]; simp; omega), U_pack]

theorem keysPacks_true (s : ByteArray) {n : Int} (hn : n < 9223372036854775808) : m_ticketlinelaw05_KeysPacks s n = some true := by
  unfold m_ticketlinelaw05_KeysPacks
  by_cases h1 : (s.size : Int) > 100
  · simp only [h1, decide_true, if_true, known05, Option.bind_some]
  have hv : m_ticketlineref05_Value s = some (decide ((s.size : Int) ≤ 40)) := rfl
  simp only [h1, decide_false, Bool.false_eq_true, if_false, keys_Words hn, ref05_Words hn, Option.bind_some, bne_self_eq_false, hv, ref05_Pack (show s.size ≤ 1000 by omega)]
  have hW := W_le (n := (s.size : Int)) (by omega)
  by_cases h2 : s.size ≤ 40
  · rw [packs05 (s := s) (l := packS s) (e := 0) (by rw [packS_length]; omega) (if_pos h2), unpacks_pack h2]
    simp only [show (s.size : Int) ≤ 40 by omega, decide_true, Bool.not_true, Bool.false_eq_true, if_false, if_true, Option.bind_some, known05]
  · rw [packs05 (s := s) (l := []) (e := 5) (by simp) (if_neg h2)]
    simp only [show ¬ (s.size : Int) ≤ 40 by omega, decide_false, Bool.not_false, if_true, Option.bind_some, known05]
theorem keysUnpacks_true {l : List Int} (hl : U64 l) (n : Int) : m_ticketlinelaw05_KeysUnpacks l n = some true := by
  unfold m_ticketlinelaw05_KeysUnpacks
  by_cases h1 : (l.length : Int) > 20
  · simp only [h1, decide_true, if_true, known05, Option.bind_some]
  have hf : fits l.length 8 := by unfold fits; omega
  simp only [h1, decide_false, Bool.false_eq_true, if_false, hf, if_true, ref05_Unpack hl (show l.length ≤ 100 by omega), Option.bind_some]
  rw [unpacks05 (n := n) (s := (unpR l n).1) (e := (unpR l n).2) hl (by omega) rfl, same05 (by omega)]
  simp only [Option.bind_some, if_true, known05]
end Go.Ev.L
