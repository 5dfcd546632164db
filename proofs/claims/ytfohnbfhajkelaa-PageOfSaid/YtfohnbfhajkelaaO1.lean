/- A slot more at the end of a page: what it becomes. -/
import Derived.Test.YtfohnbfhajkelaaF3
import Derived.Test.YtfohnbfhajkelaaM17
set_option linter.unusedVariables false
set_option linter.unusedSimpArgs false
set_option linter.unusedSectionVars false
set_option maxRecDepth 10000
namespace Go.Ev.L
open Go Go.Ev Go.Ev.M

def wordS (t k v : Int) : Int := 65536 * t + 256 * k + v
def recS (x : Pr) : List Int := packS x.1 ++ packS x.2.1
/-- a page with one more slot at the end, its record right below the top -/
def putS (p : List Int) (x : Pr) : List Int :=
  ((splice (p.set 11 (G p 11 - (recS x).length)) (G p 11 - (recS x).length) (recS x)).set (20 + G p 9).toNat (wordS (G p 11 - (recS x).length) x.1.size x.2.1.size)).set 9 (G p 9 + 1)

theorem recS_len {x : Pr} (h1 : x.1.size ≤ 1000) (h2 : x.2.1.size ≤ 1000) : ((recS x).length : Int) = costS x - 1 := by
  have W1 := W_nonneg (x.1.size : Int)
  have W2 := W_nonneg (x.2.1.size : Int)
  unfold recS costS
  rw [List.length_append, packS_length, packS_length]; omega
theorem recS_u64 (x : Pr) : U64 (recS x) := fun y hy => (List.mem_append.1 hy).elim (packS_u64 _ y) (packS_u64 _ y)

/-- there is room -/
structure Room (p : List Int) (x : Pr) : Prop where
  page : PageOK p
  key : x.1.size ≤ 100
  val : x.2.1.size ≤ 100
  room : 20 + G p 9 + costS x ≤ G p 11
  top : G p 11 ≤ 128

section
variable {p : List Int} {x : Pr} (h : Room p x)
include h
theorem Room.nums : ((recS x).length : Int) = costS x - 1 ∧ 1 ≤ costS x ∧ costS x ≤ 1000 ∧ 0 ≤ G p 9 ∧ p.length = 128 ∧ 20 + G p 9 < G p 11 - (recS x).length ∧ G p 11 - (recS x).length + (recS x).length = G p 11 := by
  have h1 := recS_len (x := x) (by have := h.key; omega) (by have := h.val; omega)
  have h2 := costS_range (x := x) (by have := h.key; have := h.val; omega)
  have h3 := h.page.2.G 9
  have h4 := h.room
  exact ⟨h1, h2.1, h2.2, h3.1, h.page.1, by omega, by omega⟩
theorem putS_pre : PageOK (p.set 11 (G p 11 - (recS x).length)) ∧ PageOK (splice (p.set 11 (G p 11 - (recS x).length)) (G p 11 - (recS x).length) (recS x)) := by
  obtain ⟨n1, n2, n3, n4, n5, n6, n7⟩ := h.nums
  have ht := h.top
  have hp1 : PageOK (p.set 11 (G p 11 - (recS x).length)) := h.page.set 11 (by omega) (by omega)
  exact ⟨hp1, splice_page hp1 (by omega) (by omega) (recS_u64 x)⟩
theorem word_range : 0 ≤ wordS (G p 11 - (recS x).length) x.1.size x.2.1.size ∧ wordS (G p 11 - (recS x).length) x.1.size x.2.1.size < 18446744073709551616 := by
  obtain ⟨n1, n2, n3, n4, n5, n6, n7⟩ := h.nums
  have := h.top
  have := h.key
  have := h.val
  unfold wordS; omega
theorem putS_page : PageOK (putS p x) := by
  obtain ⟨n1, n2, n3, n4, n5, n6, n7⟩ := h.nums
  have ht := h.top
  have hw := word_range h
  exact ((putS_pre h).2.set _ hw.1 hw.2).set 9 (by omega) (by omega)
theorem G_putS (j : Int) (h0 : 0 ≤ j) : G (putS p x) j = if j = 9 then G p 9 + 1 else if j = 20 + G p 9 then wordS (G p 11 - (recS x).length) x.1.size x.2.1.size else if G p 11 - (recS x).length ≤ j ∧ j < G p 11 then G (recS x) (j - (G p 11 - (recS x).length)) else if j = 11 then G p 11 - (recS x).length else G p j := by
  obtain ⟨n1, n2, n3, n4, n5, n6, n7⟩ := h.nums
  have ht := h.top
  obtain ⟨q1, q2⟩ := putS_pre h
  unfold putS
  rw [G_set (by rw [List.length_set, q2.1]; omega) j h0]
  by_cases c1 : j = 9
  · rw [if_pos (by omega), if_pos c1]
  · rw [if_neg (by omega), if_neg c1, G_set (by rw [q2.1]; omega) j h0]
    by_cases c2 : j = 20 + G p 9
    · rw [if_pos (by omega), if_pos c2]
    · rw [if_neg (by omega), if_neg c2, G_splice (by omega) (by rw [q1.1]; omega) j h0]
      by_cases c3 : G p 11 - (recS x).length ≤ j ∧ j < G p 11
      · rw [if_pos (by omega), if_pos c3]
      · rw [if_neg (by omega), if_neg c3, G_set (by omega) j h0]
        by_cases c4 : j = 11
        · rw [if_pos (by omega), if_pos c4]
        · rw [if_neg (by omega), if_neg c4]
theorem ref_Put' : m_ticketlineref14_Put p x = some (putS p x) := by
  obtain ⟨n1, n2, n3, n4, n5, n6, n7⟩ := h.nums
  have ht := h.top
  have hk := h.key
  have hv := h.val
  obtain ⟨q1, q2⟩ := putS_pre h
  have hL : packS x.1 ++ packS x.2.1 = recS x := rfl
  have hf : fits ((packS x.1).length + (packS x.2.1).length) 8 := by
    rw [← List.length_append, hL]; unfold fits; omega
  have w1 : IntKind.u64.wrap ((recS x).length : Int) = (recS x).length := wU (by omega) (by omega)
  have w2 : IntKind.u64.wrap (G p 11 - ((recS x).length : Int)) = G p 11 - (recS x).length := wU (by omega) (by omega)
  have w3 : IntKind.i64.wrap (G p 11 - ((recS x).length : Int)) = G p 11 - (recS x).length := wI (by omega) (by omega)
  have g11 : G (p.set 11 (G p 11 - (recS x).length)) 11 = G p 11 - (recS x).length := by rw [G_set (by omega) 11 (by omega)]; rfl
  have hput := ref_put (l := recS x) q1.1 (at' := G p 11 - (recS x).length) (by omega) (by omega)
  have gs : ∀ j, 0 ≤ j → j < 20 → G (splice (p.set 11 (G p 11 - (recS x).length)) (G p 11 - (recS x).length) (recS x)) j = if j = 11 then G p 11 - (recS x).length else G p j := by
    intro j h0 h20
    rw [G_splice (by omega) (by rw [q1.1]; omega) j h0, if_neg (by omega), G_set (by omega) j h0]; rfl
  have g9 := gs 9 (by omega) (by omega)
  have g11' := gs 11 (by omega) (by omega)
  rw [if_neg (by omega)] at g9
  rw [if_pos rfl] at g11'
  have w4 : IntKind.i64.wrap (20 + IntKind.i64.wrap (G p 9)) = 20 + G p 9 := by rw [wI (x := G p 9) (by omega) (by omega), wI (by omega) (by omega)]
  have w5 : IntKind.u64.wrap (IntKind.u64.wrap (IntKind.u64.wrap (65536 * (G p 11 - (recS x).length)) + IntKind.u64.wrap (256 * IntKind.u64.wrap (x.1.size : Int))) + IntKind.u64.wrap (x.2.1.size : Int)) = wordS (G p 11 - (recS x).length) x.1.size x.2.1.size := by
    unfold wordS
    rw [wU (x := (x.1.size : Int)) (by omega) (by omega), wU (x := (x.2.1.size : Int)) (by omega) (by omega), wU (x := 256 * (x.1.size : Int)) (by omega) (by omega), wU (x := 65536 * (G p 11 - ((recS x).length : Int))) (by omega) (by omega), wU (x := 65536 * (G p 11 - ((recS x).length : Int)) + 256 * (x.1.size : Int)) (by omega) (by omega), wU (by omega) (by omega)]
  have hw := word_range h
  have g9' : G ((splice (p.set 11 (G p 11 - (recS x).length)) (G p 11 - (recS x).length) (recS x)).set (20 + G p 9).toNat (wordS (G p 11 - (recS x).length) x.1.size x.2.1.size)) 9 = G p 9 := by
    rw [G_set (by rw [q2.1]; omega) 9 (by omega), if_neg (by omega), g9]
  have w6 : IntKind.u64.wrap (G p 9 + 1) = G p 9 + 1 := wU (by omega) (by omega)
  unfold m_ticketlineref14_Put
  rw [ref_Pack (by omega), ref_Pack (by omega)]
  simp only [Option.bind_some, hf, if_true, rd_G, hL, w1, w2, g11, w3, hput, g9, g11', w4, w5, show (0 : Int) ≤ 20 + G p 9 by omega, show 20 + G p 9 < 128 by omega, g9', w6]
  rfl
end

theorem splice_splice {p k v : List Int} {t : Int} (h0 : 0 ≤ t) (h : t.toNat + k.length + v.length ≤ p.length) : splice (splice p t k) (t + k.length) v = splice p t (k ++ v) := by
  refine List.ext_getElem? fun j => ?_
  rw [splice_get _ _ (by omega) (by rw [splice_length _ _ h0 (by omega)]; omega), splice_get _ _ h0 (by omega), splice_get _ _ h0 (by rw [List.length_append]; omega), List.length_append]
  rw [show (t + (k.length : Int)).toNat = t.toNat + k.length by omega]
  by_cases c1 : j < t.toNat
  · rw [if_pos (show j < t.toNat + k.length by omega), if_pos c1, if_pos c1]
  · by_cases c2 : j < t.toNat + k.length
    · rw [if_pos c2, if_neg c1, if_pos c2, if_neg c1, if_pos (by omega), List.getElem?_append_left (by omega)]
    · rw [if_neg c2, if_neg c1, if_neg c2, if_neg c1]
      by_cases c3 : j < t.toNat + k.length + v.length
      · rw [if_pos c3, if_pos (by omega), List.getElem?_append_right (by omega)]; congr 1; omega
      · rw [if_neg c3, if_neg (by omega)]

theorem or_add {a b : Int} (i : Nat) (ha : 0 ≤ a) (hb : 0 ≤ b) (hi : b < 2 ^ i) (hx : 2 ^ i * a + b < 18446744073709551616) : bor .u64 (2 ^ i * a) b = 2 ^ i * a + b := by
  obtain ⟨x, rfl⟩ := Int.eq_ofNat_of_zero_le ha
  obtain ⟨y, rfl⟩ := Int.eq_ofNat_of_zero_le hb
  have hi' : y < 2 ^ i := by
    have : ((y : Nat) : Int) < ((2 ^ i : Nat) : Int) := by rw [Int.natCast_pow]; exact hi
    omega
  have e : (2 : Int) ^ i * (x : Int) = ((2 ^ i * x : Nat) : Int) := by rw [Int.natCast_mul, Int.natCast_pow]; rfl
  rw [e] at hx ⊢
  unfold bor
  show IntKind.u64.wrap ((BitVec.ofInt 64 ((2 ^ i * x : Nat) : Int) ||| BitVec.ofInt 64 (y : Int)).toNat : Int) = _
  rw [BitVec.toNat_or]
  have e1 : (BitVec.ofInt 64 ((2 ^ i * x : Nat) : Int)).toNat = 2 ^ i * x := by rw [BitVec.toNat_ofInt]; omega
  have e2 : (BitVec.ofInt 64 (y : Int)).toNat = y := by rw [BitVec.toNat_ofInt]; omega
  rw [e1, e2, ← Nat.two_pow_add_eq_or_of_lt hi', wU (by omega) (by omega)]
  omega
theorem shl_u64 {a : Int} (y : Int) (m : Int) (hm : m = 2 ^ (min y.toNat 64)) (h0 : 0 ≤ a * m) (h1 : a * m < 18446744073709551616) : shlI .u64 a y = a * m := by
  unfold shlI
  rw [show IntKind.bits .u64 = 64 from rfl, ← hm, wU h0 h1]

theorem page_record {p : List Int} {k v : ByteArray} (h : Room p (k, (v, ()))) (hk : k.size ≤ 40) (hv : v.size ≤ 40) : m_page_record p k v = some (putS p (k, (v, ()))) := by
  obtain ⟨n1, n2, n3, n4, n5, n6, n7⟩ := h.nums
  have ht := h.top
  obtain ⟨q1, q2⟩ := putS_pre h
  have hL : recS (k, (v, ())) = packS k ++ packS v := rfl
  have hlen : ((recS (k, (v, ()))).length : Int) = (packS k).length + (packS v).length := by rw [hL, List.length_append]; omega
  have w0 : IntKind.u64.wrap (IntKind.i64.wrap (((packS k).length : Int) + ((packS v).length : Int))) = (recS (k, (v, ()))).length := by
    rw [wI (by omega) (by omega), wU (by omega) (by omega), hlen]
  have w2 : IntKind.u64.wrap (G p 11 - ((recS (k, (v, ()))).length : Int)) = G p 11 - (recS (k, (v, ()))).length := wU (by omega) (by omega)
  have g11 : G (p.set 11 (G p 11 - (recS (k, (v, ()))).length)) 11 = G p 11 - (recS (k, (v, ()))).length := by rw [G_set (by omega) 11 (by omega)]; rfl
  have w3 : IntKind.i64.wrap (IntKind.i64.wrap (G p 11 - ((recS (k, (v, ()))).length : Int)) + ((packS k).length : Int)) = G p 11 - (recS (k, (v, ()))).length + (packS k).length := by
    rw [wI (x := G p 11 - ((recS (k, (v, ()))).length : Int)) (by omega) (by omega), wI (by omega) (by omega)]
  have t1 : List.take (128 - (G p 11 - ((recS (k, (v, ()))).length : Int))).toNat (packS k) = packS k := List.take_of_length_le (by omega)
  have t2 : List.take (128 - (G p 11 - ((recS (k, (v, ()))).length : Int) + ((packS k).length : Int))).toNat (packS v) = packS v := List.take_of_length_le (by omega)
  have ss := splice_splice (p := p.set 11 (G p 11 - (recS (k, (v, ()))).length)) (k := packS k) (v := packS v) (t := G p 11 - (recS (k, (v, ()))).length) (by omega) (by rw [q1.1]; omega)
  rw [← hL] at ss
  have g9 : G (splice (p.set 11 (G p 11 - (recS (k, (v, ()))).length)) (G p 11 - (recS (k, (v, ()))).length) (recS (k, (v, ())))) 9 = G p 9 := by
    rw [G_splice (by omega) (by rw [q1.1]; omega) 9 (by omega), if_neg (by omega), G_set (by omega) 9 (by omega), if_neg (by omega)]
  have w4 : IntKind.u64.wrap (20 + G p 9) = 20 + G p 9 := wU (by omega) (by omega)
  have s1 : shlI .u64 (G p 11 - ((recS (k, (v, ()))).length : Int)) 16 = 2 ^ 16 * (G p 11 - ((recS (k, (v, ()))).length : Int)) := by
    rw [shl_u64 16 65536 (by decide) (by omega) (by omega)]; omega
  have s2 : shlI .u64 (IntKind.u64.wrap (k.size : Int)) 8 = 256 * (k.size : Int) := by
    rw [wU (x := (k.size : Int)) (by omega) (by omega), shl_u64 8 256 (by decide) (by omega) (by omega)]; omega
  have s3 : IntKind.u64.wrap (v.size : Int) = v.size := wU (by omega) (by omega)
  have o1 : bor .u64 (2 ^ 16 * (G p 11 - ((recS (k, (v, ()))).length : Int))) (256 * (k.size : Int)) = 2 ^ 8 * (256 * (G p 11 - ((recS (k, (v, ()))).length : Int)) + (k.size : Int)) := by
    rw [or_add 16 (by omega) (by omega) (by omega) (by omega)]; omega
  have o2 : bor .u64 (2 ^ 8 * (256 * (G p 11 - ((recS (k, (v, ()))).length : Int)) + (k.size : Int))) (v.size : Int) = wordS (G p 11 - (recS (k, (v, ()))).length) k.size v.size := by
    rw [or_add 8 (by omega) (by omega) (by omega) (by omega)]; unfold wordS; omega
  have hw := word_range h
  have g9' : G ((splice (p.set 11 (G p 11 - (recS (k, (v, ()))).length)) (G p 11 - (recS (k, (v, ()))).length) (recS (k, (v, ())))).set (20 + G p 9).toNat (wordS (G p 11 - (recS (k, (v, ()))).length) k.size v.size)) 9 = G p 9 := by
    rw [G_set (by rw [q2.1]; omega) 9 (by omega), if_neg (by omega), g9]
  have w6 : IntKind.u64.wrap (G p 9 + 1) = G p 9 + 1 := wU (by omega) (by omega)
  unfold m_page_record
  rw [keys_Pack, keys_Pack, if_pos hk, if_pos hv]
  simp only [Option.bind_some, rd_G, w0, w2, g11, show (0 : Int) ≤ G p 11 - ((recS (k, (v, ()))).length : Int) by omega, show G p 11 - ((recS (k, (v, ()))).length : Int) ≤ 128 by omega, if_true, w3, t1, t2,
    show (0 : Int) ≤ G p 11 - ((recS (k, (v, ()))).length : Int) + ((packS k).length : Int) by omega, show G p 11 - ((recS (k, (v, ()))).length : Int) + ((packS k).length : Int) ≤ 128 by omega, ss, g9, w4, show (0 : Int) ≤ 20 + G p 9 by omega, show 20 + G p 9 < 128 by omega, s1, s2, s3, o1, o2, g9', w6]
  rfl
end Go.Ev.L
