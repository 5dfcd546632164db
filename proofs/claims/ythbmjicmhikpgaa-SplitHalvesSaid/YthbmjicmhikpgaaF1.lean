/- Fences and right links: what the program and the reference compute; law 19. -/
import Derived.Test.YthbmjicmhikpgaaS3
import Derived.Test.YthbmjicmhikpgaaM19
import Derived.KernelRfl
set_option linter.unusedVariables false
set_option linter.unusedSimpArgs false
set_option maxRecDepth 10000
namespace Go.Ev.L
open Go Go.Ev Go.Ev.M

theorem known19 : m_ticketlinelaw19_known = some true := by kernel_rfl

/-- where a key is, by fences -/
def whereS (low high key : ByteArray) : Int := if strLt key low = true then -1 else if strEq high eB = true then 0 else if strLt key high = true then 0 else 1
theorem cmp_lt {a b : ByteArray} : cmpI a b < 0 ↔ strLt a b = true := by
  unfold cmpI
  cases h : strLt a b with
  | true => simp
  | false => simp only [Bool.false_eq_true, if_false, iff_false]; split <;> omega
theorem fence_place (low high key : ByteArray) : m_fence_place low high key = some (whereS low high key) := by
  unfold m_fence_place whereS
  rw [keys_Compare, keys_Compare]
  simp only [Option.bind_some]
  cases h1 : strLt key low with
  | true => simp [cmp_lt.2 h1]
  | false =>
    have n1 : ¬ cmpI key low < 0 := fun h => by rw [cmp_lt.1 h] at h1; cases h1
    simp only [n1, decide_false, Bool.false_eq_true, if_false]
    cases h2 : strEq high eB with
    | true => simp
    | false =>
      simp only [Bool.not_false, if_true, Bool.false_eq_true, if_false]
      cases h3 : strLt key high with
      | true =>
        have n3 : ¬ cmpI key high ≥ 0 := fun h => by rw [cmp_ge, h3] at h; cases h
        simp [n3]
      | false => simp [cmp_ge.2 h3]
theorem ref19_Where (low high key : ByteArray) : m_ticketlineref19_Where low high key = some (whereS low high key) := by
  unfold m_ticketlineref19_Where whereS
  cases strLt key low <;> cases strEq high eB <;> cases strLt key high <;> rfl
theorem fence_Where {p : List Int} (hp : PageOK p) (key : ByteArray) : m_fence_Where p key = some (if validB p = true then (whereS (lowS p) (highS p) key, (0 : Int)) else (0, 12)) := by
  unfold m_fence_Where
  rw [slot_Fences hp]
  cases h : validB p with
  | false => rfl
  | true => simp [fence_place]
theorem where19 {p : List Int} {key : ByteArray} {n e : Int} (h : m_fence_Where p key = some (n, e)) : m_ticketlinelaw19_where p key n e = some true := by
  unfold m_ticketlinelaw19_where; rw [h]; simp

/-- are all keys from i on inside? -/
def inFrom (low high : ByteArray) : List Pr → Bool
  | [] => true
  | x :: r => (whereS low high x.1 == 0) && inFrom low high r
theorem within_l0 (low high : ByteArray) (l : List Pr) (hl : l.length ≤ 1000) : ∀ (m n N i : Nat), i + m = l.length → m < n →
    m_fence_Within_l0 N n low high 0 l.length i l = some (inFrom low high (l.drop i), (0 : Int)) := by
  intro m
  induction m with
  | zero =>
    intro n N i hm hn
    obtain ⟨n, rfl⟩ : ∃ q, n = q + 1 := ⟨n - 1, by omega⟩
    rw [List.drop_eq_nil_of_le (by omega)]
    simp only [m_fence_Within_l0, m_fence_Within_l0_b, show ¬ (i : Int) < (l.length : Int) by omega, decide_false, Bool.false_eq_true, if_false]
    rfl
  | succ m ih =>
    intro n N i hm hn
    obtain ⟨n, rfl⟩ : ∃ q, n = q + 1 := ⟨n - 1, by omega⟩
    have hi : i < l.length := by omega
    have IH := ih n N (i + 1) (by omega) (by omega)
    have w2 : IntKind.i64.wrap ((i : Int) + 1) = ((i + 1 : Nat) : Int) := by rw [wI (by omega) (by omega)]; omega
    rw [List.drop_eq_getElem_cons hi]
    simp only [m_fence_Within_l0, m_fence_Within_l0_b, show (i : Int) < (l.length : Int) by omega, decide_true, if_true, Int.natCast_nonneg, rd_GP, GP_get hi, fence_place, Option.bind_some, w2, IH, inFrom]
    by_cases c : whereS low high (l[i]).1 = 0 <;> simp [c]
theorem fence_Within {p : List Int} (hp : PageOK p) : m_fence_Within p = some (if validB p = true then (inFrom (lowS p) (highS p) (pairsS p), (0 : Int)) else (false, 12)) := by
  unfold m_fence_Within m_fence_Within_a
  rw [slot_Fences hp, slot_Pairs hp]
  cases h : validB p with
  | false => rfl
  | true =>
    obtain ⟨hl, hlc⟩ := pairsS_len hp h
    have := within_l0 (lowS p) (highS p) (pairsS p) hl (pairsS p).length FUEL FUEL 0 (by omega) (by have := FUEL_big; omega)
    simp only [if_true, Option.bind_some, bne_self_eq_false, Bool.false_eq_true, if_false]
    simpa using this
theorem within19 {p : List Int} {is : Bool} {e : Int} (h : m_fence_Within p = some (is, e)) : m_ticketlinelaw19_within p is e = some true := by
  unfold m_ticketlinelaw19_within; rw [h]; simp

theorem fenceS_size {p : List Int} (hp : PageOK p) {a : Int} {s : ByteArray} (h : fenceS p a = some s) : s.size ≤ 24 := by
  unfold fenceS at h
  split at h
  · cases h
  · have := U_size h
    have := hp.2.G a
    omega
theorem lowS_size {p : List Int} (hp : PageOK p) : (lowS p).size ≤ 24 ∧ (highS p).size ≤ 24 := by
  unfold lowS highS
  have h0 : (eB).size = 0 := rfl
  constructor
  · cases h : fenceS p 12 with
    | none => exact (by decide : (eB).size ≤ 24)
    | some s => have := fenceS_size hp h; simpa using this
  · cases h : fenceS p 16 with
    | none => exact (by decide : (eB).size ≤ 24)
    | some s => have := fenceS_size hp h; simpa using this

def rdS (l : List ByteArray) (i : Int) : ByteArray := l.getD i.toNat eB
theorem rd_S (l : List ByteArray) (i : Int) : rd .str l i = rdS l i := rfl

section
variable {p : List Int} (hp : PageOK p) (hv : validB p = true)
include hp hv
theorem wheres_l1 (key : ByteArray) (ks : List ByteArray) (hk : ks.length ≤ 100) : ∀ (m n N i : Nat), i + m = ks.length → m < n →
    m_ticketlinelaw19_FenceWheres_l1 N n key (lowS p) (highS p) (inFrom (lowS p) (highS p) (pairsS p)) ks.length i p ks = some true := by
  have hW := fun k => where19 (p := p) (key := k) (n := whereS (lowS p) (highS p) k) (e := 0) (by rw [fence_Where hp, hv]; rfl)
  have hI := within19 (p := p) (is := inFrom (lowS p) (highS p) (pairsS p)) (e := 0) (by rw [fence_Within hp, hv]; rfl)
  intro m
  induction m with
  | zero =>
    intro n N i hm hn
    obtain ⟨n, rfl⟩ : ∃ q, n = q + 1 := ⟨n - 1, by omega⟩
    simp only [m_ticketlinelaw19_FenceWheres_l1, m_ticketlinelaw19_FenceWheres_l1_b, show ¬ (i : Int) < (ks.length : Int) by omega, decide_false, Bool.false_eq_true, if_false, ref19_Where, Option.bind_some, hW, hI, if_true, known19]
  | succ m ih =>
    intro n N i hm hn
    obtain ⟨n, rfl⟩ : ∃ q, n = q + 1 := ⟨n - 1, by omega⟩
    have IH := ih n N (i + 1) (by omega) (by omega)
    have w2 : IntKind.i64.wrap ((i : Int) + 1) = ((i + 1 : Nat) : Int) := by rw [wI (by omega) (by omega)]; omega
    simp only [m_ticketlinelaw19_FenceWheres_l1, m_ticketlinelaw19_FenceWheres_l1_b, show (i : Int) < (ks.length : Int) by omega, decide_true, if_true, Int.natCast_nonneg, ref19_Where, Option.bind_some, hW, Bool.not_true, Bool.false_eq_true, if_false, w2, IH]
theorem wheres_l0 (key : ByteArray) : ∀ (m n N i : Nat) (b : Bool), 1000 < N → i + m = (pairsS p).length → m < n → (b && inFrom (lowS p) (highS p) ((pairsS p).drop i)) = inFrom (lowS p) (highS p) (pairsS p) →
    m_ticketlinelaw19_FenceWheres_l0 N n key (lowS p) (highS p) b i p (pairsS p) = some true := by
  obtain ⟨hl, hlc⟩ := pairsS_len hp hv
  obtain ⟨z1, z2⟩ := lowS_size hp
  intro m
  induction m with
  | zero =>
    intro n N i b hN hm hn hb
    obtain ⟨n, rfl⟩ : ∃ q, n = q + 1 := ⟨n - 1, by omega⟩
    rw [List.drop_eq_nil_of_le (by omega)] at hb
    have hb' : b = inFrom (lowS p) (highS p) (pairsS p) := by simpa [inFrom] using hb
    subst hb'
    have one : (⟨#[0]⟩ : ByteArray).size = 1 := rfl
    have := wheres_l1 hp hv key [lowS p, highS p, lowS p ++ (⟨#[0]⟩ : ByteArray), highS p ++ (⟨#[0]⟩ : ByteArray)] (by simp) 4 N N 0 rfl (by omega)
    simp only [m_ticketlinelaw19_FenceWheres_l0, m_ticketlinelaw19_FenceWheres_l0_b, show ¬ (i : Int) < ((pairsS p).length : Int) by omega, decide_false, Bool.false_eq_true, if_false, one, show (lowS p).size + 1 < 9223372036854775808 by omega, show (highS p).size + 1 < 9223372036854775808 by omega, if_true]
    exact this
  | succ m ih =>
    intro n N i b hN hm hn hb
    obtain ⟨n, rfl⟩ : ∃ q, n = q + 1 := ⟨n - 1, by omega⟩
    have hi : i < (pairsS p).length := by omega
    have w2 : IntKind.i64.wrap ((i : Int) + 1) = ((i + 1 : Nat) : Int) := by rw [wI (by omega) (by omega)]; omega
    rw [List.drop_eq_getElem_cons hi] at hb
    simp only [inFrom] at hb
    simp only [m_ticketlinelaw19_FenceWheres_l0, m_ticketlinelaw19_FenceWheres_l0_b, show (i : Int) < ((pairsS p).length : Int) by omega, decide_true, if_true, Int.natCast_nonneg, rd_GP, GP_get hi, ref19_Where, Option.bind_some, w2]
    cases b with
    | true =>
      simp only [if_true]
      exact ih n N (i + 1) _ hN (by omega) (by omega) (by simpa using hb)
    | false =>
      simp only [Bool.false_eq_true, if_false]
      exact ih n N (i + 1) _ hN (by omega) (by omega) (by simpa using hb)
end
theorem fenceWheres_true {x : Pln} (h : PlnOK x) (key : ByteArray) : m_ticketlinelaw19_FenceWheres x key = some true := by
  obtain ⟨p, b, h1, h2, h3⟩ := plan_page h
  unfold m_ticketlinelaw19_FenceWheres m_ticketlinelaw19_FenceWheres_a
  rw [h1]
  simp only [Option.bind_some, known19]
  cases b with
  | false => rfl
  | true =>
    by_cases c : (key.size : Int) > 60
    · simp [c]
    simp only [Bool.not_true, Bool.false_eq_true, if_false, c, decide_false, ref_Valid h2, Option.bind_some]
    cases hv : validB p with
    | false =>
      have e1 := where19 (p := p) (key := key) (n := 0) (e := 12) (by rw [fence_Where h2, hv]; rfl)
      have e2 := within19 (p := p) (is := false) (e := 12) (by rw [fence_Within h2, hv]; rfl)
      simp [e1, e2]
    | true =>
      obtain ⟨hl, hlc⟩ := pairsS_len h2 hv
      have := wheres_l0 h2 hv key (pairsS p).length FUEL FUEL 0 true (by have := FUEL_big; omega) (by omega) (by have := FUEL_big; omega) (by simp)
      simp only [Bool.not_true, Bool.false_eq_true, if_false, ref_Fences h2, ref_Pairs h2 hv, Option.bind_some]
      exact this

/-! ### neighbours -/
def nbS (p q : List Int) (n : Int) : Bool := validB p && validB q && (G p 8 == G q 8) && !(n == 0) && (G p 10 == n) && !(strEq (highS p) eB) && strEq (highS p) (lowS q)
theorem ref19_Neighbours {p q : List Int} (hp : PageOK p) (hq : PageOK q) (n : Int) : m_ticketlineref19_Neighbours p q n = some (nbS p q n) := by
  unfold m_ticketlineref19_Neighbours nbS
  rw [ref_Valid hp, ref_Valid hq, ref_Fences hp, ref_Fences hq]
  cases hv : validB p with
  | false => simp
  | true =>
    have h1 := head_spec (valid_head hv)
    have h10 := hp.2.G 10
    have w : IntKind.i64.wrap (G p 10) = G p 10 := wI (by omega) (by omega)
    simp only [Option.bind_some, rd_G, w, Bool.not_true, Bool.false_eq_true, if_false, Bool.true_and]
    cases validB q <;> cases (G p 8 == G q 8) <;> cases hn : (n == 0) <;> cases (G p 10 == n) <;> cases strEq (highS p) eB <;> simp [bne, hn]
theorem fence_Neighbours {p q : List Int} (hp : PageOK p) (hq : PageOK q) (n : Int) : m_fence_Neighbours p q n = some (nbS p q n) := by
  unfold m_fence_Neighbours nbS
  rw [slot_Fences hp, slot_Fences hq, slot_Level hp, slot_Level hq, slot_Next hp]
  cases hv : validB p with
  | false => simp
  | true =>
    cases hw : validB q with
    | false => simp
    | true =>
      have e : (G p 8 - 1 == G q 8 - 1) = (G p 8 == G q 8) := by rw [Bool.eq_iff_iff]; simp
      have hstr : ∀ a b : ByteArray, Ty.beq .str a b = strEq a b := fun a b => rfl
      simp only [if_true, Option.bind_some, bne_self_eq_false, Bool.false_eq_true, if_false, Bool.true_and]
      have hb : Ty.beq (.pair (.int .i64) (.pair (.int .i64) (.pair .str .nl))) (G p 8 - 1, (G p 10, (highS p, ()))) (G q 8 - 1, (n, (lowS q, ()))) = ((G p 8 == G q 8) && ((G p 10 == n) && strEq (highS p) (lowS q))) := by
        show ((G p 8 - 1 == G q 8 - 1) && ((G p 10 == n) && (strEq (highS p) (lowS q) && true))) = _
        rw [e, Bool.and_true]
      rw [hb]
      cases hn : (n == 0) <;> cases strEq (highS p) eB <;> cases (G p 8 == G q 8) <;> simp
theorem neighbours_l0 {p q : List Int} (hp : PageOK p) (hq : PageOK q) (ns : List Int) (hk : ns.length ≤ 100) : ∀ (m n N i : Nat), i + m = ns.length → m < n →
    m_ticketlinelaw19_FenceNeighbours_l0 N n ns.length i p q ns = some true := by
  intro m
  induction m with
  | zero =>
    intro n N i hm hn
    obtain ⟨n, rfl⟩ : ∃ q, n = q + 1 := ⟨n - 1, by omega⟩
    simp only [m_ticketlinelaw19_FenceNeighbours_l0, m_ticketlinelaw19_FenceNeighbours_l0_b, show ¬ (i : Int) < (ns.length : Int) by omega, decide_false, Bool.false_eq_true, if_false, Option.bind_some, known19]
  | succ m ih =>
    intro n N i hm hn
    obtain ⟨n, rfl⟩ : ∃ q, n = q + 1 := ⟨n - 1, by omega⟩
    have IH := ih n N (i + 1) (by omega) (by omega)
    have w2 : IntKind.i64.wrap ((i : Int) + 1) = ((i + 1 : Nat) : Int) := by rw [wI (by omega) (by omega)]; omega
    simp only [m_ticketlinelaw19_FenceNeighbours_l0, m_ticketlinelaw19_FenceNeighbours_l0_b, show (i : Int) < (ns.length : Int) by omega, decide_true, if_true, Int.natCast_nonneg, fence_Neighbours hp hq, fence_Neighbours hq hp, ref19_Neighbours hp hq, ref19_Neighbours hq hp, Option.bind_some, beq_self_eq_true, Bool.not_true, Bool.false_eq_true, if_false, w2, IH]
theorem fenceNeighbours_true {x y : Pln} (hx : PlnOK x) (hy : PlnOK y) (n : Int) : m_ticketlinelaw19_FenceNeighbours x y n = some true := by
  obtain ⟨p, b, h1, h2, h3⟩ := plan_page hx
  obtain ⟨q, c, k1, k2, k3⟩ := plan_page hy
  unfold m_ticketlinelaw19_FenceNeighbours m_ticketlinelaw19_FenceNeighbours_a
  rw [h1, k1]
  simp only [Option.bind_some, known19]
  have := neighbours_l0 h2 k2 [n, x.2.1, 0] (by simp) 3 FUEL FUEL 0 rfl (by have := FUEL_big; omega)
  cases b with
  | false => rfl
  | true =>
    cases c with
    | false => rfl
    | true =>
      simp only [Bool.not_true, Bool.false_eq_true, if_false]
      exact this

/-! ### children -/
def childHigh (p : List Int) (i : Int) : ByteArray := if i + 1 < (count p : Int) then (pairOf p (i + 1)).1 else highS p
theorem fence_Child {p : List Int} (hp : PageOK p) (i : Int) : m_fence_Child p i = some (if srtB p = true then (if G p 8 = 1 then (eB, eB, (8 : Int)) else if i < 0 ∨ (count p : Int) ≤ i then (eB, eB, 3) else ((pairOf p i).1, childHigh p i, 0)) else (eB, eB, badS p)) := by
  unfold m_fence_Child
  rw [slot_Pairs hp, search_Sorted hp, slot_Level hp, slot_Fences hp]
  cases hv : validB p with
  | false => simp [srtB, badS, hv]
  | true =>
    obtain ⟨hl, hlc⟩ := pairsS_len hp hv
    simp only [if_true, Option.bind_some, bne_self_eq_false, Bool.false_eq_true, if_false]
    cases hs : srtB p with
    | false =>
      have h13 : badS p = 13 := by
        have : srt (pairsS p) = false := by simpa [srtB, hv] using hs
        simp [badS, hv, this]
      simp [h13]
    | true =>
      simp only [Bool.not_true, Bool.false_eq_true, if_false, if_true]
      by_cases c1 : G p 8 = 1
      · simp [c1]
      · have e1 : (G p 8 - 1 == 0) = false := by simp; omega
        simp only [e1, Bool.false_eq_true, if_false, c1, hlc]
        by_cases c2 : i < 0
        · simp [c2]
        by_cases c3 : i ≥ (count p : Int)
        · simp [c2, c3]
        have hc := count_le hp hv
        have w1 : IntKind.i64.wrap (i + 1) = i + 1 := wI (by omega) (by omega)
        have g1 := GP_pairs (p := p) (i := i) (by omega) (by omega)
        simp only [c2, c3, decide_false, Bool.false_eq_true, if_false, w1, rd_GP, show ¬ (i < 0 ∨ (count p : Int) ≤ i) by omega, show (0 : Int) ≤ i by omega, show i < (count p : Int) by omega, if_true, g1, childHigh, or_self, show ¬ (count p : Int) ≤ i by omega]
        by_cases c4 : i + 1 < (count p : Int)
        · have g2 := GP_pairs (p := p) (i := i + 1) (by omega) (by omega)
          simp only [c4, decide_true, if_true, show (0 : Int) ≤ i + 1 by omega, g2]
        · simp only [c4, decide_false, Bool.false_eq_true, if_false]
theorem child19 {p : List Int} {i e : Int} {a b : ByteArray} (h : m_fence_Child p i = some (a, b, e)) : m_ticketlinelaw19_child p i a b e = some true := by
  unfold m_ticketlinelaw19_child; rw [h]; simp [strEq_refl]
theorem ref19_Child {p : List Int} (hp : PageOK p) (hv : validB p = true) {i : Int} (h0 : 0 ≤ i) (h1 : i < count p) : m_ticketlineref19_Child p i = some ((pairOf p i).1, childHigh p i) := by
  unfold m_ticketlineref19_Child childHigh
  obtain ⟨hl, hlc⟩ := pairsS_len hp hv
  have hc := count_le hp hv
  have w1 : IntKind.i64.wrap (i + 1) = i + 1 := wI (by omega) (by omega)
  have g1 := GP_pairs (p := p) (i := i) (by omega) (by omega)
  rw [ref_Pairs hp hv, ref_Fences hp]
  simp only [Option.bind_some, hlc, w1, rd_GP, h0, h1, if_true, g1]
  by_cases c4 : i + 1 < (count p : Int)
  · have g2 := GP_pairs (p := p) (i := i + 1) (by omega) (by omega)
    simp only [c4, decide_true, if_true, show (0 : Int) ≤ i + 1 by omega, g2]
  · simp only [c4, decide_false, Bool.false_eq_true, if_false]
theorem children_l0 {p : List Int} (hp : PageOK p) (hs : srtB p = true) (h8 : G p 8 ≠ 1) (a : Int) : ∀ (m n N i : Nat), i + m = (pairsS p).length → m < n →
    m_ticketlinelaw19_FenceChildren_l0 N n a i p (pairsS p) = some true := by
  obtain ⟨hv, h2⟩ := srtB_spec hs
  obtain ⟨hl, hlc⟩ := pairsS_len hp hv
  intro m
  induction m with
  | zero =>
    intro n N i hm hn
    obtain ⟨n, rfl⟩ : ∃ q, n = q + 1 := ⟨n - 1, by omega⟩
    have hC := fence_Child hp a
    rw [hs, if_pos rfl, if_neg h8] at hC
    simp only [m_ticketlinelaw19_FenceChildren_l0, m_ticketlinelaw19_FenceChildren_l0_b, show ¬ (i : Int) < (count p : Int) by omega, decide_false, Bool.false_eq_true, if_false, known19, Option.bind_some, hlc]
    by_cases c1 : a ≥ 0
    · by_cases c2 : a < (count p : Int)
      · simp [c1, c2]
      · rw [if_pos (by omega)] at hC
        simp [c1, c2, child19 hC]
    · rw [if_pos (by omega)] at hC
      simp [c1, child19 hC]
  | succ m ih =>
    intro n N i hm hn
    obtain ⟨n, rfl⟩ : ∃ q, n = q + 1 := ⟨n - 1, by omega⟩
    have IH := ih n N (i + 1) (by omega) (by omega)
    have w2 : IntKind.i64.wrap ((i : Int) + 1) = ((i + 1 : Nat) : Int) := by rw [wI (by omega) (by omega)]; omega
    have hC := fence_Child hp i
    rw [hs, if_pos rfl, if_neg h8, if_neg (by omega)] at hC
    have hR := ref19_Child hp hv (i := (i : Int)) (by omega) (by omega)
    simp only [m_ticketlinelaw19_FenceChildren_l0, m_ticketlinelaw19_FenceChildren_l0_b, show (i : Int) < ((pairsS p).length : Int) by omega, decide_true, if_true, hR, Option.bind_some, child19 hC, Bool.not_true, Bool.false_eq_true, if_false, w2, IH]
theorem fenceChildren_true {x : Pln} (h : PlnOK x) (a : Int) : m_ticketlinelaw19_FenceChildren x a = some true := by
  obtain ⟨p, b, h1, h2, h3⟩ := plan_page h
  unfold m_ticketlinelaw19_FenceChildren m_ticketlinelaw19_FenceChildren_a
  rw [h1]
  simp only [Option.bind_some, known19, rd_G]
  cases b with
  | false => rfl
  | true =>
    simp only [Bool.not_true, Bool.false_eq_true, if_false, ref15_Bad h2, Option.bind_some]
    have hC := fun i => fence_Child h2 i
    cases hs : srtB p with
    | false =>
      have e := badS_ne hs
      have hC' := fun i => child19 (by have := hC i; rw [hs] at this; simpa using this : m_fence_Child p i = some (eB, eB, badS p))
      simp [e, hC']
    | true =>
      have hb : badS p = 0 := by have := badS_zero (p := p); rw [hs] at this; simpa using this
      obtain ⟨hv, hsr⟩ := srtB_spec hs
      obtain ⟨hl, hlc⟩ := pairsS_len h2 hv
      by_cases c1 : G p 8 = 1
      · have hC' := fun i => child19 (by have := hC i; rw [hs, if_pos rfl, if_pos c1] at this; exact this : m_fence_Child p i = some (eB, eB, 8))
        simp [hb, c1, hC']
      · have e1 : (G p 8 == 1) = false := by simpa using c1
        have := children_l0 h2 hs c1 a (pairsS p).length FUEL FUEL 0 (by omega) (by have := FUEL_big; omega)
        simp only [hb, beq_self_eq_true, if_true, e1, Bool.false_eq_true, if_false, bne_self_eq_false, ref_Pairs h2 hv, Option.bind_some]
        exact this
end Go.Ev.L
