/- Packing; empty pages. -/
import Derived.Test.YtfdgkmligadcnaaB6
import Derived.Lib.Bytealg
set_option linter.unusedVariables false
set_option linter.unusedSimpArgs false
namespace Go.Ev.L
open Go Go.Ev Go.Ev.M

/-- a byte of a string, 0 behind its end -/
def B (s : ByteArray) (j : Nat) : Int := ((s.data.toList.getD j 0).toNat : Int)
theorem bt_B (s : ByteArray) (i : Int) : bt s i = B s i.toNat := rfl
theorem B_range (s : ByteArray) (j : Nat) : 0 ≤ B s j ∧ B s j < 256 := by
  have := (s.data.toList.getD j 0).toNat_lt
  unfold B; omega
theorem B_out {s : ByteArray} {j : Nat} (h : s.size ≤ j) : B s j = 0 := by
  have : s.data.toList.length ≤ j := by simpa using h
  unfold B; rw [List.getD_eq_getElem?_getD, List.getElem?_eq_none this]; rfl

/-- the first k bytes of a word -/
def part (s : ByteArray) (j : Nat) : Nat → Int
  | 0 => 0
  | k + 1 => 256 * part s j k + B s (8 * j + k)
theorem part_range (s : ByteArray) (j : Nat) : ∀ k, 0 ≤ part s j k ∧ part s j k < 256 ^ k := by
  intro k
  induction k with
  | zero => simp [part]
  | succ k ih =>
    have hb := B_range s (8 * j + k)
    show 0 ≤ 256 * part s j k + B s (8 * j + k) ∧ 256 * part s j k + B s (8 * j + k) < 256 ^ (k + 1)
    rw [Int.pow_succ]
    omega
theorem part_lt {s : ByteArray} {j k : Nat} (h : k ≤ 7) : 0 ≤ part s j k ∧ part s j k < 72057594037927936 := by
  have h1 := part_range s j k
  have h2 : (256 : Int) ^ k ≤ 256 ^ 7 := by
    rcases (by omega : k = 0 ∨ k = 1 ∨ k = 2 ∨ k = 3 ∨ k = 4 ∨ k = 5 ∨ k = 6 ∨ k = 7) with rfl | rfl | rfl | rfl | rfl | rfl | rfl | rfl <;> decide
  have h3 : (256 : Int) ^ 7 = 72057594037927936 := by decide
  omega
def packS (s : ByteArray) : List Int := (List.range (W s.size).toNat).map fun j => part s j 8
theorem packS_length (s : ByteArray) : (packS s).length = (W s.size).toNat := by simp [packS]
theorem packS_u64 (s : ByteArray) : U64 (packS s) := by
  intro x hx
  obtain ⟨j, _, rfl⟩ := List.mem_map.1 hx
  have := part_range s j 8
  have h3 : (256 : Int) ^ 8 = 18446744073709551616 := by decide
  omega

theorem refPack_l0 {s : ByteArray} (hs : s.size ≤ 100000) : ∀ (m n N i : Nat), i + m = 8 * (W s.size).toNat → m < n →
    m_ticketlineref14_Pack_l0 N n s i ((List.range (W s.size).toNat).map fun j => part s j (min 8 (i - 8 * j))) = some (packS s) := by
  have hW := W_le (n := (s.size : Int)) (by omega)
  intro m
  induction m with
  | zero =>
    intro n N i hm hn
    obtain ⟨n, rfl⟩ : ∃ q, n = q + 1 := ⟨n - 1, by omega⟩
    have hl : ((List.range (W s.size).toNat).map fun j => part s j (min 8 (i - 8 * j))) = packS s := by
      refine List.map_congr_left fun j hj => ?_
      rw [List.mem_range] at hj
      rw [Nat.min_eq_left (by omega)]
    rw [hl]
    have w1 : IntKind.i64.wrap (8 * ((packS s).length : Int)) = 8 * (packS s).length := wI (by rw [packS_length]; omega) (by rw [packS_length]; omega)
    have hc : ¬ (i : Int) < 8 * ((packS s).length : Int) := by rw [packS_length]; omega
    simp only [m_ticketlineref14_Pack_l0, m_ticketlineref14_Pack_l0_b, w1, hc, decide_false, Bool.false_eq_true, if_false]
  | succ m ih =>
    intro n N i hm hn
    obtain ⟨n, rfl⟩ : ∃ q, n = q + 1 := ⟨n - 1, by omega⟩
    have IH := ih n N (i + 1) (by omega) (by omega)
    generalize hl : ((List.range (W s.size).toNat).map fun j => part s j (min 8 (i - 8 * j))) = out
    have hlen : out.length = (W s.size).toNat := by rw [← hl]; simp
    have hi8 : i / 8 < (W s.size).toNat := by omega
    have hg : G out ((i / 8 : Nat) : Int) = part s (i / 8) (i % 8) := by
      rw [G_get (by omega)]
      subst hl
      rw [List.getElem_map, List.getElem_range, show min 8 (i - 8 * (i / 8)) = i % 8 by omega]
    have hset : out.set (i / 8) (256 * part s (i / 8) (i % 8) + B s i) = (List.range (W s.size).toNat).map fun j => part s j (min 8 (i + 1 - 8 * j)) := by
      refine List.ext_getElem (by simp [hlen]) fun j h1 h2 => ?_
      have hj : j < (W s.size).toNat := by simpa using h2
      rw [List.getElem_map, List.getElem_range, List.getElem_set]
      by_cases e : i / 8 = j
      · subst e
        rw [if_pos rfl, show min 8 (i + 1 - 8 * (i / 8)) = i % 8 + 1 by omega]
        show _ = 256 * part s (i / 8) (i % 8) + B s (8 * (i / 8) + i % 8)
        rw [show 8 * (i / 8) + i % 8 = i by omega]
      · rw [if_neg e]
        subst hl
        rw [List.getElem_map, List.getElem_range]
        congr 1; omega
    have hp := part_lt (s := s) (j := i / 8) (k := i % 8) (by omega)
    have hb := B_range s i
    have w1 : IntKind.i64.wrap (8 * (out.length : Int)) = 8 * out.length := wI (by omega) (by omega)
    have w2 : IntKind.i64.wrap ((i : Int) + 1) = ((i + 1 : Nat) : Int) := by rw [wI (by omega) (by omega)]; omega
    have w3 : IntKind.i64.wrap (Int.tdiv (i : Int) 8) = ((i / 8 : Nat) : Int) := by rw [td8 (by omega), wI (by omega) (by omega)]; omega
    have w4 : IntKind.u64.wrap (256 * part s (i / 8) (i % 8)) = 256 * part s (i / 8) (i % 8) := wU (by omega) (by omega)
    have w5 : IntKind.u64.wrap (bt s i) = B s i := by rw [bt_B, Int.toNat_natCast, wU (by omega) (by omega)]
    have w6 : IntKind.u64.wrap (256 * part s (i / 8) (i % 8) + B s i) = 256 * part s (i / 8) (i % 8) + B s i := wU (by omega) (by omega)
    have c1 : (i : Int) < 8 * (out.length : Int) := by omega
    have c2 : ((i / 8 : Nat) : Int) < (out.length : Int) := by omega
    simp only [m_ticketlineref14_Pack_l0, m_ticketlineref14_Pack_l0_b, w1, w2, w3, c1, c2, decide_true, if_true, Int.natCast_nonneg, rd_G, hg, w4, w5, w6, Int.toNat_natCast]
    by_cases hc : (i : Int) < (s.size : Int)
    · simp only [hc, decide_true, if_true, hset, IH]
    · have hz : B s i = 0 := B_out (by omega)
      rw [hz, Int.add_zero] at hset w6
      simp only [hc, decide_false, Bool.false_eq_true, if_false, Int.add_zero, w4, hset, IH]

theorem ref_Pack {s : ByteArray} (hs : s.size ≤ 100000) : m_ticketlineref14_Pack s = some (packS s) := by
  unfold m_ticketlineref14_Pack m_ticketlineref14_Pack_a
  have hW := W_le (n := (s.size : Int)) (by omega)
  have h0 := W_nonneg (s.size : Int)
  rw [ref14_Words (by omega) (by omega)]
  have hf : fits (W s.size).toNat 8 := by unfold fits; omega
  have := refPack_l0 hs (8 * (W s.size).toNat) FUEL FUEL 0 (by omega) (by have := FUEL_big; omega)
  have hr : ((List.range (W s.size).toNat).map fun j => part s j (min 8 (0 - 8 * j))) = List.replicate (W s.size).toNat 0 := by
    refine List.ext_getElem (by simp) fun j h1 h2 => ?_
    rw [List.getElem_map, List.getElem_range, List.getElem_replicate, show min 8 (0 - 8 * j) = 0 by omega]; rfl
  rw [hr] at this
  simp only [Option.bind_some, h0, Int.le_refl, if_true, hf]
  exact this

theorem or_byte {a b : Int} (ha : 0 ≤ a) (ha' : a < 72057594037927936) (hb : 0 ≤ b) (hb' : b < 256) : bor .u64 (256 * a) b = 256 * a + b := by
  obtain ⟨x, rfl⟩ := Int.eq_ofNat_of_zero_le ha
  obtain ⟨y, rfl⟩ := Int.eq_ofNat_of_zero_le hb
  unfold bor
  show IntKind.u64.wrap ((BitVec.ofInt 64 (256 * (x : Int)) ||| BitVec.ofInt 64 (y : Int)).toNat : Int) = _
  rw [BitVec.toNat_or]
  have e1 : (BitVec.ofInt 64 (256 * (x : Int))).toNat = 2 ^ 8 * x := by rw [BitVec.toNat_ofInt]; omega
  have e2 : (BitVec.ofInt 64 (y : Int)).toNat = y := by rw [BitVec.toNat_ofInt]; omega
  rw [e1, e2, ← Nat.two_pow_add_eq_or_of_lt (show y < 2 ^ 8 by omega), wU (by omega) (by omega)]
  omega

theorem pack_l1 {s : ByteArray} (hs : s.size ≤ 40) (s0 : ByteArray → Int → Int → (List Int) → Option ((List Int) × Int)) (c j : Nat) (hj : j ≤ 10) (out : List Int) (ho : out.length ≤ 100) : ∀ (m n N k : Nat), k + m = 8 → m < n →
    m_keys_Pack_l1 N s0 n s j (part s j k) c j k out = s0 s c ((j + 1 : Nat) : Int) (out ++ [part s j 8]) := by
  intro m
  induction m with
  | zero =>
    intro n N k hk hn
    obtain ⟨n, rfl⟩ : ∃ q, n = q + 1 := ⟨n - 1, by omega⟩
    obtain rfl : k = 8 := by omega
    have w2 : IntKind.i64.wrap ((j : Int) + 1) = ((j + 1 : Nat) : Int) := by rw [wI (by omega) (by omega)]; omega
    have hf : fits (List.length out + 1) 8 := by unfold fits; omega
    simp [m_keys_Pack_l1, m_keys_Pack_l1_b, w2, hf]
  | succ m ih =>
    intro n N k hk hn
    obtain ⟨n, rfl⟩ : ∃ q, n = q + 1 := ⟨n - 1, by omega⟩
    have IH := ih n N (k + 1) (by omega) (by omega)
    have hp := part_lt (s := s) (j := j) (k := k) (by omega)
    have hb := B_range s (8 * j + k)
    have w2 : IntKind.i64.wrap ((k : Int) + 1) = ((k + 1 : Nat) : Int) := by rw [wI (by omega) (by omega)]; omega
    have w3 : IntKind.i64.wrap (IntKind.i64.wrap ((j : Int) * 8) + k) = ((8 * j + k : Nat) : Int) := by
      rw [wI (x := (j : Int) * 8) (by omega) (by omega), wI (by omega) (by omega)]; omega
    have w4 : shlI .u64 (part s j k) 8 = 256 * part s j k := by
      show IntKind.u64.wrap (part s j k * 2 ^ (min (8 : Int).toNat 64)) = _
      rw [show (2 : Int) ^ (min (8 : Int).toNat 64) = 256 by decide, wU (by omega) (by omega)]; omega
    have w5 : IntKind.u64.wrap (bt s ((8 * j + k : Nat) : Int)) = B s (8 * j + k) := by rw [bt_B, Int.toNat_natCast, wU (by omega) (by omega)]
    have w6 := or_byte hp.1 hp.2 hb.1 hb.2
    have hpart : part s j (k + 1) = 256 * part s j k + B s (8 * j + k) := rfl
    simp only [m_keys_Pack_l1, m_keys_Pack_l1_b, show (k : Int) < 8 by omega, decide_true, if_true, w2, w3, w4, w5, w6, Int.natCast_nonneg]
    rw [hpart] at IH
    by_cases hc : ((8 * j + k : Nat) : Int) < (s.size : Int)
    · simp only [hc, decide_true, if_true, IH]
    · have hz : B s (8 * j + k) = 0 := B_out (by omega)
      rw [hz, Int.add_zero] at IH
      simp only [hc, decide_false, Bool.false_eq_true, if_false, IH]
theorem pack_l0 {s : ByteArray} (hs : s.size ≤ 40) : ∀ (m n N j : Nat), 100 < N → j + m = (W s.size).toNat → m < n → m_keys_Pack_l0 N n s ((W s.size).toNat : Int) j ((List.range j).map fun j => part s j 8) = some (packS s, 0) := by
  have hW := W_le (n := (s.size : Int)) (by omega)
  intro m
  induction m with
  | zero =>
    intro n N j hN hm hn
    obtain ⟨n, rfl⟩ : ∃ q, n = q + 1 := ⟨n - 1, by omega⟩
    obtain rfl : j = (W s.size).toNat := by omega
    simp [m_keys_Pack_l0, m_keys_Pack_l0_b, packS]
  | succ m ih =>
    intro n N j hN hm hn
    obtain ⟨n, rfl⟩ : ∃ q, n = q + 1 := ⟨n - 1, by omega⟩
    have IH := ih n N (j + 1) hN (by omega) (by omega)
    have h1 := pack_l1 hs (m_keys_Pack_l0 N n) (W s.size).toNat j (by omega) ((List.range j).map fun j => part s j 8) (by simp; omega) 8 N N 0 (by omega) (by omega)
    rw [List.range_succ, List.map_append] at IH
    simp only [m_keys_Pack_l0, m_keys_Pack_l0_b, show (j : Int) < ((W s.size).toNat : Int) by omega, decide_true, if_true]
    exact h1.trans IH
theorem keys_Pack (s : ByteArray) : m_keys_Pack s = some (if s.size ≤ 40 then (packS s, (0 : Int)) else ([], 5)) := by
  unfold m_keys_Pack m_keys_Pack_a m_keys_ValidValue
  by_cases h : s.size ≤ 40
  · have h0 := W_nonneg (s.size : Int)
    have := pack_l0 h (W s.size).toNat FUEL FUEL 0 (by have := FUEL_big; omega) (by omega) (by have := FUEL_big; have := W_le (n := (s.size : Int)) (by omega); omega)
    rw [show (((W s.size).toNat : Nat) : Int) = W s.size by omega] at this
    simp only [show (s.size : Int) ≤ 40 by omega, decide_true, Option.bind_some, Bool.not_true, Bool.false_eq_true, if_false, keys_Words (show (s.size : Int) < 9223372036854775808 by omega), h, if_true]
    exact this
  · simp [show ¬ (s.size : Int) ≤ 40 by omega, h]

/-! ### writing words -/
theorem splice_get {α : Type} (xs ys : List α) {off : Int} (h0 : 0 ≤ off) (h : off.toNat + ys.length ≤ xs.length) (i : Nat) : (splice xs off ys)[i]? = if i < off.toNat then xs[i]? else if i < off.toNat + ys.length then ys[i - off.toNat]? else xs[i]? := by
  unfold splice
  have hl : (xs.take off.toNat).length = off.toNat := by simp; omega
  by_cases h1 : i < off.toNat
  · rw [if_pos h1, List.append_assoc, List.getElem?_append_left (by omega), List.getElem?_take, if_pos h1]
  · rw [if_neg h1]
    by_cases h2 : i < off.toNat + ys.length
    · rw [if_pos h2, List.append_assoc, List.getElem?_append_right (by omega), hl, List.getElem?_append_left (by omega)]
    · rw [if_neg h2, List.getElem?_append_right (by simp [hl]; omega), List.getElem?_drop]
      congr 1; simp [hl]; omega
theorem splice_length {α : Type} (xs ys : List α) {off : Int} (h0 : 0 ≤ off) (h : off.toNat + ys.length ≤ xs.length) : (splice xs off ys).length = xs.length := by
  unfold splice; simp; omega
theorem splice_page {p : List Int} (hp : PageOK p) {off : Int} {l : List Int} (h0 : 0 ≤ off) (h : off.toNat + l.length ≤ 128) (hl : U64 l) : PageOK (splice p off l) := by
  refine ⟨by rw [splice_length _ _ h0 (by rw [hp.1]; exact h)]; exact hp.1, fun x hx => ?_⟩
  unfold splice at hx
  simp only [List.mem_append] at hx
  rcases hx with (hx | hx) | hx
  · exact hp.2 x (List.mem_of_mem_take hx)
  · exact hl x hx
  · exact hp.2 x (List.mem_of_mem_drop hx)
theorem G_splice {p l : List Int} {off : Int} (h0 : 0 ≤ off) (h : off.toNat + l.length ≤ p.length) (i : Int) (hi : 0 ≤ i) : G (splice p off l) i = if off ≤ i ∧ i < off + l.length then G l (i - off) else G p i := by
  unfold G
  simp only [List.getD_eq_getElem?_getD, splice_get p l h0 h]
  by_cases c1 : i.toNat < off.toNat
  · rw [if_pos c1, if_neg (by omega)]
  · rw [if_neg c1]
    by_cases c2 : i.toNat < off.toNat + l.length
    · rw [if_pos c2, if_pos (by omega), show (i - off).toNat = i.toNat - off.toNat by omega]
    · rw [if_neg c2, if_neg (by omega)]
theorem G_set {p : List Int} {i : Nat} {x : Int} (h : i < p.length) (j : Int) (hj : 0 ≤ j) : G (p.set i x) j = if j = i then x else G p j := by
  unfold G
  simp only [List.getD_eq_getElem?_getD, List.getElem?_set]
  by_cases c : j = i
  · rw [if_pos c, if_pos (by omega), if_pos h]; rfl
  · rw [if_neg c, if_neg (by omega)]

theorem put_l0 (at' : Int) (h0 : 0 ≤ at') (l : List Int) : ∀ (m n N i : Nat) (p : List Int), i + m = l.length → m < n → p.length = 128 → at' + l.length ≤ 128 →
    m_ticketlineref14_put_l0 N n at' l i p = some (splice p (at' + i) (l.drop i)) := by
  intro m
  induction m with
  | zero =>
    intro n N i p hm hn hp ha
    obtain ⟨n, rfl⟩ : ∃ q, n = q + 1 := ⟨n - 1, by omega⟩
    obtain rfl : i = l.length := by omega
    simp [m_ticketlineref14_put_l0, m_ticketlineref14_put_l0_b, splice]
  | succ m ih =>
    intro n N i p hm hn hp ha
    obtain ⟨n, rfl⟩ : ∃ q, n = q + 1 := ⟨n - 1, by omega⟩
    have hi : i < l.length := by omega
    have IH := ih n N (i + 1) (p.set (at' + i).toNat (G l i)) (by omega) (by omega) (by simpa using hp) ha
    have w2 : IntKind.i64.wrap ((i : Int) + 1) = ((i + 1 : Nat) : Int) := by rw [wI (by omega) (by omega)]; omega
    have w3 : IntKind.i64.wrap (at' + (i : Int)) = at' + i := wI (by omega) (by omega)
    simp only [m_ticketlineref14_put_l0, m_ticketlineref14_put_l0_b, rd_G, w2, w3, show (i : Int) < (l.length : Int) by omega, decide_true, if_true, Int.natCast_nonneg, show (0 : Int) ≤ at' + i by omega, show at' + (i : Int) < 128 by omega, IH]
    rw [G_get hi, List.drop_eq_getElem_cons hi]
    congr 1
    refine List.ext_getElem? fun j => ?_
    rw [splice_get _ _ (by omega) (by simp; omega), splice_get _ _ (by omega) (by simp; omega)]
    simp only [List.length_cons, List.length_drop]
    by_cases c1 : j < (at' + i).toNat
    · rw [if_pos (show j < (at' + ((i + 1 : Nat) : Int)).toNat by omega), if_pos c1, List.getElem?_set_ne (by omega)]
    · by_cases c2 : j = (at' + i).toNat
      · subst c2
        rw [if_pos (show (at' + (i : Int)).toNat < (at' + ((i + 1 : Nat) : Int)).toNat by omega), if_neg (show ¬ (at' + (i : Int)).toNat < (at' + (i : Int)).toNat by omega), if_pos (show (at' + (i : Int)).toNat < (at' + (i : Int)).toNat + (l.length - (i + 1) + 1) by omega), List.getElem?_set_self (by omega), Nat.sub_self]; rfl
      · rw [if_neg (show ¬ j < (at' + ((i + 1 : Nat) : Int)).toNat by omega), if_neg c1]
        by_cases c3 : j < (at' + i).toNat + (l.length - (i + 1) + 1)
        · rw [if_pos (show j < (at' + ((i + 1 : Nat) : Int)).toNat + (l.length - (i + 1)) by omega), if_pos c3, show j - (at' + (i : Int)).toNat = (j - (at' + ((i + 1 : Nat) : Int)).toNat) + 1 by omega, List.getElem?_cons_succ]
        · rw [if_neg (show ¬ j < (at' + ((i + 1 : Nat) : Int)).toNat + (l.length - (i + 1)) by omega), if_neg c3, List.getElem?_set_ne (by omega)]
theorem ref_put {p l : List Int} (hp : p.length = 128) {at' : Int} (h0 : 0 ≤ at') (h : at' + l.length ≤ 128) : m_ticketlineref14_put p at' l = some (splice p at' l) := by
  unfold m_ticketlineref14_put m_ticketlineref14_put_a
  have := put_l0 at' h0 l l.length FUEL FUEL 0 p (by omega) (by have := FUEL_big; omega) hp h
  simpa using this

/-- the empty page -/
def emptyS (level : Int) (low high : ByteArray) : List Int :=
  splice (splice (((((List.replicate 128 0).set 8 (1 + level)).set 11 128).set 12 low.size).set 16 high.size) 13 (packS low)) 17 (packS high)
theorem packS_len3 {s : ByteArray} (h : s.size ≤ 24) : (packS s).length ≤ 3 := by
  have := W_le (n := (s.size : Int)) (by omega)
  rw [packS_length]; omega
theorem ref_Empty {level : Int} {low high : ByteArray} (h0 : -1 ≤ level) (h1 : level ≤ 1000) (hl : low.size ≤ 24) (hh : high.size ≤ 24) : m_ticketlineref14_Empty level low high = some (emptyS level low high) := by
  unfold m_ticketlineref14_Empty emptyS
  have p1 := packS_len3 hl
  have p2 := packS_len3 hh
  have w1 : IntKind.u64.wrap (IntKind.i64.wrap (1 + level)) = 1 + level := by rw [wI (by omega) (by omega), wU (by omega) (by omega)]
  have w2 : IntKind.u64.wrap (low.size : Int) = low.size := wU (by omega) (by omega)
  have w3 : IntKind.u64.wrap (high.size : Int) = high.size := wU (by omega) (by omega)
  rw [ref_Pack (by omega), ref_Pack (by omega), w1, w2, w3]
  simp only [Option.bind_some]
  rw [ref_put (by simp) (by omega) (by omega)]
  simp only [Option.bind_some]
  rw [ref_put (by rw [splice_length _ _ (by omega) (by simp; omega)]; simp) (by omega) (by omega)]
  rfl
theorem empty_page {level : Int} {low high : ByteArray} (h0 : -1 ≤ level) (h1 : level ≤ 1000) (hl : low.size ≤ 24) (hh : high.size ≤ 24) : PageOK (emptyS level low high) := by
  have p1 := packS_len3 hl
  have p2 := packS_len3 hh
  unfold emptyS
  refine splice_page (splice_page ?_ (by omega) (by omega) (packS_u64 _)) (by omega) (by omega) (packS_u64 _)
  exact (((page_zero.set 8 (by omega) (by omega)).set 11 (by omega) (by omega)).set 12 (by omega) (by omega)).set 16 (by omega) (by omega)
end Go.Ev.L
