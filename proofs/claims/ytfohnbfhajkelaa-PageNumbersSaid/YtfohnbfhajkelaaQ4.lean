/- Law 16: a value written over; inserting, putting, removing. -/
import Derived.Test.YtfohnbfhajkelaaQ3
set_option linter.unusedVariables false
set_option linter.unusedSimpArgs false
set_option linter.unusedSectionVars false
set_option maxRecDepth 10000
namespace Go.Ev.L
open Go Go.Ev Go.Ev.M

theorem bandn255 {x : Int} (h0 : 0 ≤ x) (h1 : x < 18446744073709551616) : bandn .u64 x 255 = 2 ^ 8 * (x / 256) := by
  unfold bandn
  obtain ⟨n, rfl⟩ := Int.eq_ofNat_of_zero_le h0
  have e1 : (BitVec.ofInt 64 (n : Int)).toNat = n := by rw [BitVec.toNat_ofInt]; omega
  have e2 : (BitVec.ofInt 64 (255 : Int)).toNat = 255 := by decide
  have e : (BitVec.ofInt 64 (n : Int) &&& ~~~ (BitVec.ofInt 64 (255 : Int))).toNat = 2 ^ 8 * (n / 2 ^ 8) := by
    rw [BitVec.toNat_and, BitVec.toNat_not, e1, e2, show 2 ^ 64 - 1 - 255 = 2 ^ 8 * (2 ^ 56 - 1) by decide]
    refine Nat.eq_of_testBit_eq fun i => ?_
    rw [Nat.testBit_and, Nat.testBit_two_pow_mul, Nat.testBit_two_pow_mul, Nat.testBit_two_pow_sub_one, Nat.testBit_div_two_pow]
    by_cases c : i ≥ 8
    · simp only [c, decide_true, Bool.true_and]
      rw [show i - 8 + 8 = i by omega]
      by_cases c2 : i - 8 < 56
      · simp [c2]
      · have : n.testBit i = false := Nat.testBit_lt_two_pow (Nat.lt_of_lt_of_le (by omega : n < 2 ^ 64) (Nat.pow_le_pow_right (by omega) (by omega)))
        simp [this]
    · simp [c]
  show IntKind.u64.wrap ((BitVec.ofInt 64 (n : Int) &&& ~~~ (BitVec.ofInt 64 (255 : Int))).toNat : Int) = _
  rw [e, wU (by omega) (by omega)]
  omega

def overS (p : List Int) (i : Nat) (v : ByteArray) : List Int := mk fun j => if j = 20 + i then sw p i - valS (sw p i) + v.size else if midS (sw p i) ≤ j ∧ j < midS (sw p i) + (packS v).length then G (packS v) (j - midS (sw p i)) else G p j
theorem G_overS (p : List Int) (i : Nat) (v : ByteArray) {j : Int} (h0 : 0 ≤ j) (h1 : j < 128) : G (overS p i v) j = if j = 20 + i then sw p i - valS (sw p i) + v.size else if midS (sw p i) ≤ j ∧ j < midS (sw p i) + (packS v).length then G (packS v) (j - midS (sw p i)) else G p j := G_mk _ h0 h1
section
variable {p : List Int} (hp : PageOK p) (hv : validB p = true) {i : Nat} (hi : i < count p) {v : ByteArray} (h40 : v.size ≤ 40) (hW : W (pairOf p i).2.1.size = W v.size)
include hp hv hi h40 hW
theorem over_nums : 20 + (i : Int) < midS (sw p i) ∧ midS (sw p i) + (packS v).length ≤ 128 ∧ endS (sw p i) = midS (sw p i) + (packS v).length ∧ G p 11 ≤ atS (sw p i) ∧ atS (sw p i) ≤ midS (sw p i) := by
  have hh := head_spec (valid_head hv)
  obtain ⟨hc, hc9⟩ := count_le hp hv
  obtain ⟨s, e1, e2, e3, e4⟩ := slot_is hp hv hi
  have hs := (valid_good hp hv hi).sized
  have hend : endS (sw p i) = midS (sw p i) + W (valS (sw p i)) := rfl
  have W2 := W_nonneg (v.size : Int)
  have l2 : ((packS v).length : Int) = W v.size := by rw [packS_length]; omega
  rw [e4, hW] at hend
  have := hs.low
  have := hs.mid0
  have := hs.end1
  refine ⟨by omega, by omega, by omega, hs.low, hs.mid0⟩
theorem over_eq : List.set (splice p (midS (sw p i)) (List.take (128 - midS (sw p i)).toNat (packS v))) (20 + (i : Int)).toNat (bor .u64 (bandn .u64 (sw p i) 255) (IntKind.u64.wrap (v.size : Int))) = overS p i v := by
  obtain ⟨n1, n2, n3, n4, n5⟩ := over_nums hp hv hi h40 hW
  obtain ⟨hc, hc9⟩ := count_le hp hv
  have hw := hp.2.G (20 + i)
  have hw' : sw p i = G p (20 + i) := rfl
  rw [List.take_of_length_le (by omega), bandn255 (by omega) (by omega), wU (by omega) (by omega), or_add 8 (by omega) (by omega) (by omega) (by omega)]
  have hsl : (splice p (midS (sw p i)) (packS v)).length = 128 := by rw [splice_length _ _ (by omega) (by rw [hp.1]; omega), hp.1]
  refine eq_mk (by rw [List.length_set, hsl]) fun j h0 h1 => ?_
  rw [G_set (by rw [hsl]; omega) _ h0, G_splice (by omega) (by rw [hp.1]; omega) j h0]
  by_cases d1 : j = 20 + i
  · rw [if_pos (by omega), if_pos d1]; unfold valS; omega
  · rw [if_neg (by omega), if_neg d1]
theorem refPut_l0 (key : ByteArray) (z : List Int) : ∀ (m n N a : Nat) (q : List Int), a + m = (packS v).length → m < n → q.length = 128 → (∀ j : Int, 0 ≤ j → j < 128 → G q j = if midS (sw p i) ≤ j ∧ j < midS (sw p i) + a then G (packS v) (j - midS (sw p i)) else G p j) →
    m_ticketlineref16_Put_l0 N n i a q key v z (atS (sw p i)) (keyS (sw p i)) (valS (sw p i)) (packS v) = some (overS p i v, 0) := by
  obtain ⟨n1, n2, n3, n4, n5⟩ := over_nums hp hv hi h40 hW
  obtain ⟨hc, hc9⟩ := count_le hp hv
  have hs := (valid_good hp hv hi).sized
  have hw := hp.2.G (20 + i)
  have hw' : sw p i = G p (20 + i) := rfl
  have a0 := hs.at0
  have k0 := hs.key0
  have k1 := hs.key
  have Wk := W_le k0
  have hmid : midS (sw p i) = atS (sw p i) + W (keyS (sw p i)) := rfl
  have w4 : IntKind.i64.wrap (20 + (i : Int)) = 20 + i := wI (by omega) (by omega)
  intro m
  induction m with
  | zero =>
    intro n N a q hm hn hl hq
    obtain ⟨n, rfl⟩ : ∃ q, n = q + 1 := ⟨n - 1, by omega⟩
    have g20 : G q (20 + i) = sw p i := by rw [hq _ (by omega) (by omega), if_neg (by omega)]; rfl
    have vr := valS_range (sw p i)
    have hvs : valS (sw p i) = sw p i % 256 := rfl
    have wv : IntKind.u64.wrap (valS (sw p i)) = valS (sw p i) := wU (by omega) (by omega)
    have w6 : IntKind.u64.wrap (sw p i - valS (sw p i)) = sw p i - valS (sw p i) := wU (by omega) (by omega)
    have w7 : IntKind.u64.wrap (v.size : Int) = v.size := wU (by omega) (by omega)
    have w8' : IntKind.u64.wrap (sw p i - valS (sw p i) + v.size) = sw p i - valS (sw p i) + v.size := wU (by omega) (by omega)
    have e : q.set (20 + (i : Int)).toNat (sw p i - valS (sw p i) + v.size) = overS p i v := by
      refine eq_mk (by rw [List.length_set, hl]) fun j h0 h1 => ?_
      rw [G_set (by omega) _ h0]
      by_cases d1 : j = 20 + i
      · rw [if_pos (by omega), if_pos d1]
      · rw [if_neg (by omega), if_neg d1, hq j h0 h1, show (a : Int) = (packS v).length by omega]
    simp only [m_ticketlineref16_Put_l0, m_ticketlineref16_Put_l0_b, show ¬ (a : Int) < ((packS v).length : Int) by omega, decide_false, Bool.false_eq_true, if_false, w4, show (0 : Int) ≤ 20 + (i : Int) by omega, show 20 + (i : Int) < 128 by omega, if_true, rd_G, g20, wv, w6, w7, w8', e]
  | succ m ih =>
    intro n N a q hm hn hl hq
    obtain ⟨n, rfl⟩ : ∃ q, n = q + 1 := ⟨n - 1, by omega⟩
    have w1 : IntKind.i64.wrap ((a : Int) + 1) = ((a + 1 : Nat) : Int) := by rw [wI (by omega) (by omega)]; omega
    have w2 : IntKind.i64.wrap (IntKind.i64.wrap (atS (sw p i) + W (keyS (sw p i))) + a) = midS (sw p i) + a := by rw [wI (x := atS (sw p i) + W (keyS (sw p i))) (by omega) (by omega), wI (by omega) (by omega)]; omega
    have I := ih n N (a + 1) (q.set (midS (sw p i) + a).toNat (G (packS v) a)) (by omega) (by omega) (by rw [List.length_set, hl]) fun j h0 h1 => by
      rw [G_set (by omega) _ h0]
      by_cases d : j = midS (sw p i) + a
      · rw [if_pos (by omega), if_pos (by omega)]; congr 1; omega
      · rw [if_neg (by omega), hq j h0 h1]
        by_cases d2 : midS (sw p i) ≤ j ∧ j < midS (sw p i) + a
        · rw [if_pos d2, if_pos (by omega)]
        · rw [if_neg d2, if_neg (by omega)]
    simp only [m_ticketlineref16_Put_l0, m_ticketlineref16_Put_l0_b, show (a : Int) < ((packS v).length : Int) by omega, decide_true, if_true, ref14_Words k0 (by omega), Option.bind_some, w2, Int.natCast_nonneg, show (0 : Int) ≤ midS (sw p i) + a by omega, show midS (sw p i) + (a : Int) < 128 by omega, rd_G, w1, I]
theorem over_facts (ha : allowedS (G p 8 == 1) i ((pairOf p i).1, (v, ())) = 0) : PageOK (overS p i v) ∧ validB (overS p i v) = true ∧ pairsS (overS p i v) = (pairsS p).set i ((pairOf p i).1, (v, ())) ∧ (∀ j, 0 ≤ j → j < 20 → G (overS p i v) j = G p j) := by
  obtain ⟨n1, n2, n3, n4, n5⟩ := over_nums hp hv hi h40 hW
  obtain ⟨hc, hc9⟩ := count_le hp hv
  have hh := head_spec (valid_head hv)
  have hl : (pairsS p).length = count p := pairsTo_length _ _
  have hw := hp.2.G (20 + i)
  have hw' : sw p i = G p (20 + i) := rfl
  have hvs : valS (sw p i) = sw p i % 256 := rfl
  have hq : PageOK (overS p i v) := mk_page fun j h0 h1 => by
    have a1 := hp.2.G j
    have a2 := (packS_u64 v).G (j - midS (sw p i))
    split; · omega
    split <;> omega
  have gl : ∀ j, 0 ≤ j → j < 20 → G (overS p i v) j = G p j := fun j h0 h1 => by rw [G_overS p i v h0 (by omega), if_neg (by omega), if_neg (by omega)]
  obtain ⟨h1, h2, h3⟩ := head_of hp hq (valid_head hv) (fun j a b c d => gl j (by omega) b) (by rw [gl 9 (by omega) (by omega)]; omega) (by rw [gl 9 (by omega) (by omega), gl 11 (by omega) (by omega)]; omega) (by rw [gl 11 (by omega) (by omega)]; omega)
  have lge : ∀ (k : Nat) (hk : k < ((pairsS p).set i ((pairOf p i).1, (v, ()))).length), ((pairsS p).set i ((pairOf p i).1, (v, ())))[k] = if i = k then ((pairOf p i).1, (v, ())) else pairOf p k := fun k hk => by
    rw [List.getElem_set]
    split
    · rfl
    · simp [pairsS, pairsTo]
  obtain ⟨si, e1, e2, e3, e4⟩ := slot_is hp hv hi
  have lnew : ((recS ((pairOf p i).1, (v, ()))).length : Int) = (recS (pairOf p i)).length := by rw [rec_len, rec_len]; dsimp only; rw [hW]
  obtain ⟨a1, a2⟩ := assemble hq h1 (l := (pairsS p).set i ((pairOf p i).1, (v, ()))) (by rw [gl 9 (by omega) (by omega), List.length_set, hl]; omega) (fun k => atS (sw p (k : Nat))) (fun k hk => by
      have hk' : k < count p := by rw [List.length_set] at hk; omega
      rw [lge k hk]
      by_cases c : i = k
      · subst c
        rw [if_pos rfl]
        refine ⟨?_, by rw [gl 11 (by omega) (by omega)]; exact si.low, by rw [lnew]; exact si.high, fun j j0 j1 => ?_⟩
        · have hsw : sw (overS p i v) i = sw p i - valS (sw p i) + v.size := by
            show G (overS p i v) (20 + i) = _
            rw [G_overS p i v (by omega) (by omega), if_pos rfl]
          have := si.word
          rw [hsw]
          dsimp only
          unfold wordS at this ⊢
          omega
        · rw [lnew] at j1
          have sh := si.high
          rw [G_overS p i v (by omega) (by omega), if_neg (by omega)]
          by_cases d : midS (sw p i) ≤ j
          · rw [if_pos ⟨d, by omega⟩]
            unfold recS
            dsimp only
            rw [G_append _ (by omega), if_neg (by omega)]
            congr 1; omega
          · rw [if_neg (by omega), si.recs j j0 j1]
            unfold recS
            dsimp only
            rw [G_append _ (by omega), if_pos (by omega), G_append _ (by omega), if_pos (by omega)]
      · rw [if_neg c]
        obtain ⟨s, f1, f2, f3, f4⟩ := slot_is hp hv hk'
        have sh := s.high
        have sl := s.low
        refine ⟨?_, by rw [gl 11 (by omega) (by omega)]; exact s.low, s.high, fun j j0 j1 => ?_⟩
        · rw [← s.word]
          unfold sw
          rw [G_overS p i v (by omega) (by omega), if_neg (by omega), if_neg (by omega)]
        · rw [← s.recs j j0 j1, G_overS p i v (by omega) (by omega), if_neg (by omega), if_neg]
          intro hin
          rcases Nat.lt_or_ge i k with h | h
          · have := slots_apart hp hv h hk'; omega
          · have := slots_apart hp hv (i := k) (j := i) (by omega) hi; omega)
    (fun k m hkm hm => by
      have hm' : m < count p := by rw [List.length_set] at hm; omega
      rw [lge m hm, lge k (by omega)]
      obtain ⟨_, f1, _⟩ := slot_is hp hv hm'
      obtain ⟨_, f2, _⟩ := slot_is hp hv (i := k) (by omega)
      have hap := slots_apart hp hv hkm hm'
      by_cases c1 : i = m
      · subst c1
        rw [if_pos rfl, if_neg (by omega), lnew]; omega
      · rw [if_neg c1]
        by_cases c2 : i = k
        · subst c2; rw [if_pos rfl, lnew]; omega
        · rw [if_neg c2]; omega)
    (fun k hk => by
      have hk' : k < count p := by rw [List.length_set] at hk; omega
      rw [lge k hk, gl 8 (by omega) (by omega)]
      by_cases c : i = k
      · subst c; rw [if_pos rfl]; exact ha
      · rw [if_neg c]; exact valid_allowed hp hv hk')
  exact ⟨hq, a1, a2, gl⟩
end

theorem sumC_eraseIdx : ∀ {l : List Pr} {i : Nat} (h : i < l.length), sumC (l.eraseIdx i) = sumC l - costS l[i] := by
  intro l
  induction l with
  | nil => intro i h; simp at h
  | cons x l ih =>
    intro i h
    cases i with
    | zero => show sumC l = sumC (x :: l) - costS x; show sumC l = (costS x + sumC l) - costS x; omega
    | succ i =>
      have hi : i < l.length := by simpa using h
      have := ih (i := i) hi
      show costS x + sumC (l.eraseIdx i) = costS x + sumC l - costS (l[i]'hi)
      omega
def keyI (p : List Int) (key : ByteArray) : Nat := posS key (pairsS p)
def isI (p : List Int) (key : ByteArray) : Bool := isS key (pairsS p)
def putE (p : List Int) (x : Pr) (absent : Bool) : Int :=
  if srtB p = false then badS p else if allowedS (G p 8 == 1) (keyI p x.1) x ≠ 0 then allowedS (G p 8 == 1) (keyI p x.1) x else if isI p x.1 = true ∧ absent = true then 11
  else if sumC (pairsS p) + costS x - (if isI p x.1 = true then costS (pairOf p (keyI p x.1)) else 0) > 108 then 7 else 0
def putP (p : List Int) (x : Pr) : List Int :=
  if isI p x.1 = true then (if W (pairOf p (keyI p x.1)).2.1.size = W x.2.1.size then overS p (keyI p x.1) x.2.1 else addS (takeS p (keyI p x.1)) (keyI p x.1) x) else addS p (keyI p x.1) x
def putR (p : List Int) (x : Pr) (absent : Bool) : List Int × Int := if putE p x absent = 0 then (putP p x, 0) else (List.replicate 128 0, putE p x absent)

section
variable {p : List Int} (hp : PageOK p) (hs : srtB p = true) {x : Pr}
include hp hs
theorem key_le (key : ByteArray) : keyI p key ≤ count p := by
  obtain ⟨hv, hsr⟩ := srtB_spec hs
  have hl : (pairsS p).length = count p := pairsTo_length _ _
  unfold keyI
  by_cases h : posS key (pairsS p) ≤ (pairsS p).length
  · omega
  · exfalso
    have := posS_eq (key := key) (l := pairsS p) (i := (pairsS p).length) (Nat.le_refl _) (fun j hj _ => posS_lt hj (by omega)) (fun h => by omega)
    omega
theorem key_is {key : ByteArray} (h : isI p key = true) : keyI p key < count p ∧ (pairOf p (keyI p key)).1 = key := by
  have hl : (pairsS p).length = count p := pairsTo_length _ _
  unfold isI at h
  unfold keyI
  by_cases c : posS key (pairsS p) < (pairsS p).length
  · rw [isS_get rfl c] at h
    refine ⟨by omega, ?_⟩
    have e : (pairsS p)[posS key (pairsS p)] = pairOf p ((posS key (pairsS p) : Nat) : Int) := by simp [pairsS, pairsTo]
    rw [← e]; exact strEq_iff.1 h
  · rw [isS_end (by omega)] at h; cases h
/-- what comes from the place of a key on is behind it -/
theorem key_behind {key : ByteArray} {k : Nat} (h1 : keyI p key ≤ k) (h2 : k < count p) (h3 : isI p key = true → keyI p key < k) : strLt key (pairOf p k).1 = true := by
  obtain ⟨hv, hsr⟩ := srtB_spec hs
  have hl : (pairsS p).length = count p := pairsTo_length _ _
  have e : ∀ m : Nat, (hm : m < (pairsS p).length) → (pairsS p)[m] = pairOf p (m : Int) := fun m hm => by simp [pairsS, pairsTo]
  have c : posS key (pairsS p) < (pairsS p).length := by unfold keyI at h1; omega
  have h0 := posS_at c
  rw [e _ c] at h0
  have hge : strLt key (pairOf p ((posS key (pairsS p) : Nat) : Int)).1 = true ∨ (pairOf p ((posS key (pairsS p) : Nat) : Int)).1 = key := by
    rcases strLt_tri (pairOf p ((posS key (pairsS p) : Nat) : Int)).1 key with h | h | h
    · rw [h] at h0; cases h0
    · exact .inr h
    · exact .inl h
  by_cases ck : k = posS key (pairsS p)
  · rcases hge with h | h
    · rw [ck]; exact h
    · have : isI p key = true := by unfold isI; rw [isS_get rfl c, e _ c]; exact strEq_iff.2 h
      have := h3 this
      unfold keyI at this; omega
  · have hlt := srt_lt hsr (posS key (pairsS p)) k (by unfold keyI at h1; omega) (by omega)
    rw [e _ c, e k (by omega)] at hlt
    rcases hge with h | h
    · exact strLt_trans h hlt
    · rw [h] at hlt; exact hlt
end
theorem lt_ne {a b : ByteArray} (h : strLt a b = true) : b ≠ eB := by
  intro e
  subst e
  rw [strLt_empty] at h; cases h
end Go.Ev.L
