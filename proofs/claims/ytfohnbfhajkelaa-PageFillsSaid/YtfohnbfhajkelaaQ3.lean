/- Law 16: a slot put in; a value written over. -/
import Derived.Test.YtfohnbfhajkelaaQ2
set_option linter.unusedVariables false
set_option linter.unusedSimpArgs false
set_option linter.unusedSectionVars false
set_option maxRecDepth 10000
namespace Go.Ev.L
open Go Go.Ev Go.Ev.M

/-- the last word of the directory moved to a place -/
def rotS (r : List Int) (i : Nat) : List Int := mk fun j => if j = 20 + i then G r (19 + G r 9) else if 20 + i < j ∧ j ≤ 19 + G r 9 then G r (j - 1) else G r j
theorem G_rotS (r : List Int) (i : Nat) {j : Int} (h0 : 0 ≤ j) (h1 : j < 128) : G (rotS r i) j = if j = 20 + i then G r (19 + G r 9) else if 20 + i < j ∧ j ≤ 19 + G r 9 then G r (j - 1) else G r j := G_mk _ h0 h1
theorem rotS_page {r : List Int} (hr : PageOK r) (i : Nat) : PageOK (rotS r i) := mk_page fun j h0 h1 => by
  have a1 := hr.2.G j
  have a2 := hr.2.G (j - 1)
  have a3 := hr.2.G (19 + G r 9)
  split; · omega
  split <;> omega
def putAt (b : List Int) (i : Nat) (x : Pr) : List Int := rotS (putS b x) i
def addS (p : List Int) (i : Nat) (x : Pr) : List Int := putAt (if costS x > gapS p then compS p else p) i x

section
variable {r : List Int} (hr : PageOK r) {i : Nat} (hi : (i : Int) < G r 9) (h9 : G r 9 ≤ 108)
include hr hi h9
theorem rot_eq : List.set (splice r (21 + i) (List.take (20 + G r 9 - (21 + i)).toNat (win r (20 + i) (19 + G r 9 - (20 + i))))) (20 + (i : Int)).toNat (G r (19 + G r 9)) = rotS r i := by
  have hwl : (win r (20 + i) (19 + G r 9 - (20 + i))).length = (G r 9 - 1 - i).toNat := by rw [win_len (by omega) (by omega) (by rw [hr.1]; omega)]; congr 1; omega
  have ht : List.take (20 + G r 9 - (21 + i)).toNat (win r (20 + i) (19 + G r 9 - (20 + i))) = win r (20 + i) (19 + G r 9 - (20 + i)) := List.take_of_length_le (by rw [hwl]; omega)
  have hsl : (splice r (21 + i) (win r (20 + i) (19 + G r 9 - (20 + i)))).length = 128 := by rw [splice_length _ _ (by omega) (by rw [hwl, hr.1]; omega), hr.1]
  rw [ht]
  refine eq_mk (by rw [List.length_set, hsl]) fun j h0 h1 => ?_
  rw [G_set (by rw [hsl]; omega) _ h0, G_splice (by omega) (by rw [hwl, hr.1]; omega) j h0, hwl]
  by_cases d1 : j = 20 + i
  · rw [if_pos (by omega), if_pos d1]
  · rw [if_neg (by omega), if_neg d1]
    by_cases d2 : 20 + i < j ∧ j ≤ 19 + G r 9
    · rw [if_pos (by omega), if_pos d2, G_win (by omega) _ (by omega) (by omega)]; congr 1; omega
    · rw [if_neg (by omega), if_neg d2]
theorem refAdd_l0 (z : List Int) : ∀ (m n N a : Nat) (q : List Int), (a : Int) = 20 + i + m → m < n → (a : Int) ≤ 19 + G r 9 → q.length = 128 → (∀ j : Int, 0 ≤ j → j < 128 → G q j = if a < j ∧ j ≤ 19 + G r 9 then G r (j - 1) else G r j) →
    m_ticketlineref16_Add_l0 N n i (G r (19 + G r 9)) a q z = some (rotS r i) := by
  intro m
  have w4 : IntKind.i64.wrap (20 + (i : Int)) = 20 + i := wI (by omega) (by omega)
  induction m with
  | zero =>
    intro n N a q hm hn ha hl hq
    obtain ⟨n, rfl⟩ : ∃ q, n = q + 1 := ⟨n - 1, by omega⟩
    have e : q.set (20 + (i : Int)).toNat (G r (19 + G r 9)) = rotS r i := by
      refine eq_mk (by rw [List.length_set, hl]) fun j h0 h1 => ?_
      rw [G_set (by omega) _ h0]
      by_cases d1 : j = 20 + i
      · rw [if_pos (by omega), if_pos d1]
      · rw [if_neg (by omega), if_neg d1, hq j h0 h1]
        by_cases d2 : 20 + i < j ∧ j ≤ 19 + G r 9
        · rw [if_pos (by omega), if_pos d2]
        · rw [if_neg (by omega), if_neg d2]
    simp only [m_ticketlineref16_Add_l0, m_ticketlineref16_Add_l0_b, w4, show ¬ (a : Int) > 20 + (i : Int) by omega, decide_false, Bool.false_eq_true, if_false, show (0 : Int) ≤ 20 + (i : Int) by omega, show 20 + (i : Int) < 128 by omega, if_true, e]
  | succ m ih =>
    intro n N a q hm hn ha hl hq
    obtain ⟨n, rfl⟩ : ∃ q, n = q + 1 := ⟨n - 1, by omega⟩
    have w1 : IntKind.i64.wrap ((a : Int) - 1) = ((a - 1 : Nat) : Int) := by rw [wI (by omega) (by omega)]; omega
    have e1 : G q ((a - 1 : Nat) : Int) = G r ((a - 1 : Nat) : Int) := by rw [hq _ (by omega) (by omega), if_neg (by omega)]
    have I := ih n N (a - 1) (q.set a (G q ((a - 1 : Nat) : Int))) (by omega) (by omega) (by omega) (by rw [List.length_set, hl]) fun j h0 h1 => by
      rw [G_set (by omega) _ h0, e1]
      by_cases d : j = a
      · rw [if_pos d, if_pos (by omega)]; congr 1; omega
      · rw [if_neg d, hq j h0 h1]
        by_cases d2 : a < j ∧ j ≤ 19 + G r 9
        · rw [if_pos d2, if_pos (by omega)]
        · rw [if_neg d2, if_neg (by omega)]
    simp only [m_ticketlineref16_Add_l0, m_ticketlineref16_Add_l0_b, w4, show (a : Int) > 20 + (i : Int) by omega, decide_true, if_true, w1, Int.natCast_nonneg, show ((a - 1 : Nat) : Int) < 128 by omega, show (a : Int) < 128 by omega, rd_G, Int.toNat_natCast, I]
theorem refAdd_all (z : List Int) : m_ticketlineref16_Add_l0 FUEL FUEL i (G r (19 + G r 9)) (19 + G r 9) r z = some (rotS r i) := by
  have L := refAdd_l0 hr hi h9 z (G r 9 - 1 - i).toNat FUEL FUEL (19 + G r 9).toNat r (by omega) (by have := FUEL_big; omega) (by omega) hr.1 fun j h0 h1 => by rw [if_neg (by omega)]
  rw [Int.toNat_of_nonneg (by omega)] at L
  exact L
end

section
variable {b : List Int} (hb : PageOK b) (hv : validB b = true) {i : Nat} (hi : i ≤ count b) {x : Pr} (R : Room b x) (hx : allowedS (G b 8 == 1) i x = 0)
include hb hv hi R
theorem put_nine : G (putS b x) 9 = G b 9 + 1 ∧ G b 9 + 1 ≤ 108 := by
  obtain ⟨n1, n2, n3, n4, n5, n6, n7⟩ := R.nums
  have := R.top
  have e := head_spec (valid_head hv)
  refine ⟨by rw [G_putS R 9 (by omega), if_pos rfl], ?_⟩
  have := hb.2.G 9
  have := rec_len x
  have := W_nonneg (x.1.size : Int)
  have := W_nonneg (x.2.1.size : Int)
  omega
include hx
theorem putAt_facts (hk : ∀ k : Nat, i ≤ k → k < count b → (pairOf b k).1 ≠ eB) : PageOK (putAt b i x) ∧ validB (putAt b i x) = true ∧ pairsS (putAt b i x) = (pairsS b).take i ++ x :: (pairsS b).drop i ∧ (∀ j, 0 ≤ j → j < 20 → j ≠ 9 → j ≠ 11 → G (putAt b i x) j = G b j) ∧ G (putAt b i x) 9 = G b 9 + 1 ∧ G (putAt b i x) 11 = G b 11 - (costS x - 1) := by
  obtain ⟨hc, hc9⟩ := count_le hb hv
  obtain ⟨n1, n2, n3, n4, n5, n6, n7⟩ := R.nums
  obtain ⟨p9, p108⟩ := put_nine hb hv hi R
  have htop := R.top
  have hh := head_spec (valid_head hv)
  have hl : (pairsS b).length = count b := pairsTo_length _ _
  have hP := putS_page R
  have gP := fun j h0 => G_putS R j h0
  have wr := word_range R
  have rp := rec_pos hx
  -- words of the new page
  have gq : ∀ j : Int, 0 ≤ j → j < 128 → G (putAt b i x) j = if j = 20 + i then wordS (G b 11 - (recS x).length) x.1.size x.2.1.size else if 20 + i < j ∧ j ≤ 20 + G b 9 then G b (j - 1) else if j = 9 then G b 9 + 1 else if G b 11 - (recS x).length ≤ j ∧ j < G b 11 then G (recS x) (j - (G b 11 - (recS x).length)) else if j = 11 then G b 11 - (recS x).length else G b j := by
    intro j h0 h1
    unfold putAt
    rw [G_rotS _ i h0 h1, p9]
    by_cases d1 : j = 20 + i
    · rw [if_pos d1, if_pos d1, gP _ (by omega), if_neg (by omega), if_pos (by omega)]
    rw [if_neg d1, if_neg d1]
    by_cases d2 : 20 + i < j ∧ j ≤ 20 + G b 9
    · rw [if_pos (by omega), if_pos d2, gP _ (by omega), if_neg (by omega), if_neg (by omega), if_neg (by omega), if_neg (by omega)]
    · rw [if_neg (by omega), if_neg d2, gP _ h0]
      by_cases d3 : j = 9
      · rw [if_pos d3, if_pos d3]
      · rw [if_neg d3, if_neg d3, if_neg (by omega)]
  have hq : PageOK (putAt b i x) := rotS_page hP i
  have g9 : G (putAt b i x) 9 = G b 9 + 1 := by rw [gq 9 (by omega) (by omega), if_neg (by omega), if_neg (by omega), if_pos rfl]
  have g11 : G (putAt b i x) 11 = G b 11 - (recS x).length := by rw [gq 11 (by omega) (by omega), if_neg (by omega), if_neg (by omega), if_neg (by omega), if_neg (by omega), if_pos rfl]
  have gl : ∀ j, 0 ≤ j → j < 20 → j ≠ 9 → j ≠ 11 → G (putAt b i x) j = G b j := fun j h0 h1 h2 h3 => by rw [gq j h0 (by omega), if_neg (by omega), if_neg (by omega), if_neg h2, if_neg (by omega), if_neg h3]
  obtain ⟨h1, h2, h3⟩ := head_of hb hq (valid_head hv) (fun j a b c d => gl j (by omega) b c d) (by omega) (by rw [g9, g11]; omega) (by rw [g11]; omega)
  have hle : ((pairsS b).take i ++ x :: (pairsS b).drop i).length = count b + 1 := by rw [List.length_append, List.length_take, List.length_cons, List.length_drop, hl]; omega
  -- where each slot comes from
  have lge : ∀ (k : Nat) (hk : k < ((pairsS b).take i ++ x :: (pairsS b).drop i).length), ((pairsS b).take i ++ x :: (pairsS b).drop i)[k] = if k < i then pairOf b k else if k = i then x else pairOf b ((k - 1 : Nat) : Int) := by
    intro k hk
    by_cases c1 : k < i
    · rw [if_pos c1, List.getElem_append_left (by rw [List.length_take]; omega)]
      simp [pairsS, pairsTo]
    · rw [if_neg c1, List.getElem_append_right (by rw [List.length_take]; omega)]
      have e : k - ((pairsS b).take i).length = k - i := by rw [List.length_take]; omega
      by_cases c2 : k = i
      · rw [if_pos c2]
        have : k - ((pairsS b).take i).length = 0 := by omega
        simp only [this, List.getElem_cons_zero]
      · rw [if_neg c2]
        have : k - ((pairsS b).take i).length = (k - i - 1) + 1 := by omega
        simp only [this, List.getElem_cons_succ, List.getElem_drop]
        have e2 : i + (k - i - 1) = k - 1 := by omega
        simp only [e2]
        simp [pairsS, pairsTo]
  let T : Nat → Int := fun k => if k < i then atS (sw b k) else if k = i then G b 11 - (recS x).length else atS (sw b ((k - 1 : Nat) : Int))
  have old : ∀ m : Nat, m < count b → ∀ k : Nat, (k : Int) < G b 9 + 1 → sw (putAt b i x) k = sw b m → SlotIs (putAt b i x) k (pairOf b m) (atS (sw b m)) := by
    intro m hm k hk hw
    obtain ⟨s, e1, _⟩ := slot_is hb hv hm
    have := s.low
    have := s.high
    refine ⟨by rw [hw]; exact s.word, by rw [g11]; omega, s.high, fun j j0 j1 => ?_⟩
    rw [← s.recs j j0 j1, gq j (by omega) (by omega), if_neg (by omega), if_neg (by omega), if_neg (by omega), if_neg (by omega), if_neg (by omega)]
  obtain ⟨a1, a2⟩ := assemble hq h1 (l := (pairsS b).take i ++ x :: (pairsS b).drop i) (by rw [g9, hle]; omega) T (fun k hk => by
      rw [lge k hk]
      show SlotIs _ _ _ (if k < i then atS (sw b k) else if k = i then G b 11 - (recS x).length else atS (sw b ((k - 1 : Nat) : Int)))
      by_cases c1 : k < i
      · rw [if_pos c1, if_pos c1]
        exact old k (by omega) k (by omega) (by unfold sw; rw [gq _ (by omega) (by omega), if_neg (by omega), if_neg (by omega), if_neg (by omega), if_neg (by omega), if_neg (by omega)])
      · rw [if_neg c1, if_neg c1]
        by_cases c2 : k = i
        · rw [if_pos c2, if_pos c2]
          refine ⟨by unfold sw; rw [gq _ (by omega) (by omega), if_pos (by omega)], by rw [g11]; exact Int.le_refl _, by omega, fun j j0 j1 => ?_⟩
          rw [gq j (by omega) (by omega), if_neg (by omega), if_neg (by omega), if_neg (by omega), if_pos (by omega)]
        · rw [if_neg c2, if_neg c2]
          exact old (k - 1) (by omega) k (by omega) (by unfold sw; rw [gq _ (by omega) (by omega), if_neg (by omega), if_pos (by omega)]; congr 1; omega))
    (fun k m hkm hm => by
      rw [lge m hm, lge k (by omega)]
      show (if m < i then atS (sw b m) else if m = i then G b 11 - (recS x).length else atS (sw b ((m - 1 : Nat) : Int))) + _ ≤ (if k < i then atS (sw b k) else if k = i then G b 11 - (recS x).length else atS (sw b ((k - 1 : Nat) : Int))) ∨ (if k < i then atS (sw b k) else if k = i then G b 11 - (recS x).length else atS (sw b ((k - 1 : Nat) : Int))) + _ ≤ (if m < i then atS (sw b m) else if m = i then G b 11 - (recS x).length else atS (sw b ((m - 1 : Nat) : Int)))
      by_cases c1 : m < i
      · have c2 : k < i := by omega
        rw [if_pos c1, if_pos c1, if_pos c2, if_pos c2]
        obtain ⟨_, e1, _⟩ := slot_is hb hv (i := m) (by omega)
        obtain ⟨_, e2, _⟩ := slot_is hb hv (i := k) (by omega)
        rw [← e1, ← e2]
        exact slots_apart hb hv hkm (by omega)
      rw [if_neg c1, if_neg c1]
      by_cases c2 : m = i
      · rw [if_pos c2, if_pos c2, if_pos (by omega), if_pos (by omega)]
        obtain ⟨s, _⟩ := slot_is hb hv (i := k) (by omega)
        have := s.low
        left; omega
      rw [if_neg c2, if_neg c2]
      obtain ⟨s, e1, _⟩ := slot_is hb hv (i := m - 1) (by omega)
      by_cases c3 : k < i
      · rw [if_pos c3, if_pos c3]
        obtain ⟨_, e2, _⟩ := slot_is hb hv (i := k) (by omega)
        rw [← e1, ← e2]
        exact slots_apart hb hv (by omega) (by omega)
      rw [if_neg c3, if_neg c3]
      by_cases c4 : k = i
      · rw [if_pos c4, if_pos c4]
        have := s.low
        right; omega
      · rw [if_neg c4, if_neg c4]
        obtain ⟨_, e2, _⟩ := slot_is hb hv (i := k - 1) (by omega)
        rw [← e1, ← e2]
        exact slots_apart hb hv (by omega) (by omega))
    (fun k hk' => by
      rw [lge k hk', gl 8 (by omega) (by omega) (by omega) (by omega)]
      by_cases c1 : k < i
      · rw [if_pos c1]; exact valid_allowed hb hv (by omega)
      rw [if_neg c1]
      by_cases c2 : k = i
      · rw [if_pos c2, c2]; exact hx
      · rw [if_neg c2]
        exact allowed_mono (valid_allowed hb hv (i := k - 1) (by omega)) fun _ e => absurd e (hk (k - 1) (by omega) (by omega)))
  exact ⟨hq, a1, a2, gl, g9, by rw [g11, n1]⟩
end

section
variable {p : List Int} (hp : PageOK p) (hv : validB p = true) {i : Nat} (hi : i ≤ count p) {x : Pr} (hk : x.1.size ≤ 24) (hx : x.2.1.size ≤ 40) (hr : sumC (pairsS p) + costS x ≤ 108)
include hp hv hk hx hr
theorem add_room : Room (if costS x > gapS p then compS p else p) x := by
  have hh := head_spec (valid_head hv)
  obtain ⟨hc, hc9⟩ := count_le hp hv
  have hl : (pairsS p).length = count p := pairsTo_length _ _
  by_cases c : costS x > gapS p
  · rw [if_pos c]
    obtain ⟨f1, f2, f3, f4, f5, f6⟩ := comp_facts hp hv
    have n := sumC_nonneg (l := pairsS p) (pairsTo_small (p := p) (n := count p) (by omega)).2
    exact ⟨f1, by omega, by omega, by rw [f5, f6]; omega, by rw [f6]; omega⟩
  · rw [if_neg c]
    unfold gapS at c
    exact ⟨hp, by omega, by omega, by omega, by omega⟩
theorem add_base : PageOK (if costS x > gapS p then compS p else p) ∧ validB (if costS x > gapS p then compS p else p) = true ∧ pairsS (if costS x > gapS p then compS p else p) = pairsS p ∧ (∀ j, 0 ≤ j → j < 20 → j ≠ 9 → j ≠ 11 → G (if costS x > gapS p then compS p else p) j = G p j) ∧ G (if costS x > gapS p then compS p else p) 9 = G p 9 := by
  by_cases c : costS x > gapS p
  · rw [if_pos c]
    obtain ⟨f1, f2, f3, f4, f5, f6⟩ := comp_facts hp hv
    exact ⟨f1, f2, f3, f4, f5⟩
  · rw [if_neg c]
    exact ⟨hp, hv, rfl, fun _ _ _ _ _ => rfl, rfl⟩
include hi
theorem page_add : m_page_add p i x.1 x.2.1 = some (0, addS p i x) := by
  have R := add_room hp hv hk hx hr
  obtain ⟨b1, b2, b3, b4, b5⟩ := add_base hp hv hk hx hr
  obtain ⟨hc, hc9⟩ := count_le hp hv
  have hcb : count (if costS x > gapS p then compS p else p) = count p := by unfold count; rw [b5]
  obtain ⟨p9, p108⟩ := put_nine b1 b2 (i := i) (by rw [hcb]; exact hi) R
  have hP := putS_page R
  have hrec := page_record R (by omega) hx
  have hcost := slot_Cost (a := x.1) (b := x.2.1) (by omega) (by omega)
  have hce : costS (x.1, (x.2.1, ())) = costS x := rfl
  have hgap : G p 11 - G p 9 - 20 = gapS p := rfl
  have hn9 : G (putS (if costS x > gapS p then compS p else p) x) 9 = G p 9 + 1 := by rw [p9, b5]
  have E := rot_eq hP (i := i) (by rw [hn9]; omega) (by rw [hn9]; omega)
  have w1 : IntKind.i64.wrap (G p 9 + 1) = G p 9 + 1 := wI (by omega) (by omega)
  have w2 : IntKind.i64.wrap (20 + (G p 9 + 1)) = 21 + G p 9 := by rw [wI (by omega) (by omega)]; omega
  have w3 : IntKind.i64.wrap (21 + G p 9 - 1) = 20 + G p 9 := by rw [wI (by omega) (by omega)]; omega
  have w4 : IntKind.i64.wrap (20 + (i : Int)) = 20 + i := wI (by omega) (by omega)
  have w5 : IntKind.i64.wrap (20 + (i : Int) + 1) = 21 + i := by rw [wI (by omega) (by omega)]; omega
  have w6 : IntKind.i64.wrap (20 + G p 9 + 1) = 21 + G p 9 := by rw [wI (by omega) (by omega)]; omega
  rw [hn9, show 19 + (G p 9 + 1) = 20 + G p 9 by omega, show 20 + (G p 9 + 1) = 21 + G p 9 by omega] at E
  have hx' : (x.1, (x.2.1, ())) = x := rfl
  unfold m_page_add addS putAt
  rw [slot_Gap hp, hv, if_pos rfl, hcost, hce, hgap]
  by_cases c : costS x > gapS p
  · rw [if_pos c] at hrec E hn9 ⊢
    simp only [Option.bind_some, bne_self_eq_false, Bool.false_eq_true, if_false, c, decide_true, if_true, slot_Pairs hp, hv, page_compact' hp hv, hrec, hx', rd_G, hn9, w1, w2, w3, w4, w5, w6, show (0 : Int) ≤ 20 + G p 9 by omega, show 20 + G p 9 < 128 by omega, show (0 : Int) ≤ 21 + G p 9 by omega, show 21 + G p 9 ≤ 128 by omega, show (0 : Int) ≤ 21 + (i : Int) by omega, show 21 + (i : Int) ≤ 21 + G p 9 by omega, show 20 + G p 9 ≤ 128 by omega, show (0 : Int) ≤ 20 + (i : Int) by omega, show 20 + (i : Int) ≤ 20 + G p 9 by omega, show 20 + (i : Int) < 128 by omega, E]
  · rw [if_neg c] at hrec E hn9 ⊢
    simp only [Option.bind_some, bne_self_eq_false, Bool.false_eq_true, if_false, c, decide_false, hrec, hx', rd_G, hn9, w1, w2, w3, w4, w5, w6, show (0 : Int) ≤ 20 + G p 9 by omega, show 20 + G p 9 < 128 by omega, show (0 : Int) ≤ 21 + G p 9 by omega, show 21 + G p 9 ≤ 128 by omega, show (0 : Int) ≤ 21 + (i : Int) by omega, show 21 + (i : Int) ≤ 21 + G p 9 by omega, show 20 + G p 9 ≤ 128 by omega, show (0 : Int) ≤ 20 + (i : Int) by omega, show 20 + (i : Int) ≤ 20 + G p 9 by omega, show 20 + (i : Int) < 128 by omega, E, if_true]
theorem ref16_Add : m_ticketlineref16_Add p i x = some (addS p i x) := by
  have R := add_room hp hv hk hx hr
  obtain ⟨b1, b2, b3, b4, b5⟩ := add_base hp hv hk hx hr
  obtain ⟨hc, hc9⟩ := count_le hp hv
  have hh := head_spec (valid_head hv)
  have hcb : count (if costS x > gapS p then compS p else p) = count p := by unfold count; rw [b5]
  obtain ⟨p9, p108⟩ := put_nine b1 b2 (i := i) (by rw [hcb]; exact hi) R
  have hP := putS_page R
  have hput := ref_Put' R
  have hcost := ref_Cost (x := x) (by omega) (by omega)
  have hn9 : G (putS (if costS x > gapS p then compS p else p) x) 9 = G p 9 + 1 := by rw [p9, b5]
  have E := refAdd_all hP (i := i) (by rw [hn9]; omega) (by rw [hn9]; omega) (List.replicate 128 0)
  have w1 : IntKind.i64.wrap (G p 9 + 1) = G p 9 + 1 := wI (by omega) (by omega)
  have w2 : IntKind.i64.wrap (20 + (G p 9 + 1)) = 21 + G p 9 := by rw [wI (by omega) (by omega)]; omega
  have w3 : IntKind.i64.wrap (21 + G p 9 - 1) = 20 + G p 9 := by rw [wI (by omega) (by omega)]; omega
  rw [hn9, show 19 + (G p 9 + 1) = 20 + G p 9 by omega] at E
  have hgap : m_ticketlineref16_gap p = some (gapS p) := by
    unfold m_ticketlineref16_gap gapS
    rw [rd_G, rd_G, wI (x := G p 11) (by omega) (by omega), wI (x := G p 11 - 20) (by omega) (by omega), wI (x := G p 9) (by omega) (by omega), wI (by omega) (by omega)]
    congr 1; omega
  unfold m_ticketlineref16_Add m_ticketlineref16_Add_a addS putAt
  rw [hcost, hgap]
  by_cases c : costS x > gapS p
  · rw [if_pos c] at hput E hn9 ⊢
    simp only [Option.bind_some, c, decide_true, if_true, ref16_Compact' hp hv, hput, rd_G, hn9, w1, w2, w3, show (0 : Int) ≤ 20 + G p 9 by omega, show 20 + G p 9 < 128 by omega, E]
  · rw [if_neg c] at hput E hn9 ⊢
    simp only [Option.bind_some, c, decide_false, Bool.false_eq_true, if_false, hput, rd_G, hn9, w1, w2, w3, show (0 : Int) ≤ 20 + G p 9 by omega, show 20 + G p 9 < 128 by omega, if_true, E]
theorem addS_facts (ha : allowedS (G p 8 == 1) i x = 0) (hne : ∀ k : Nat, i ≤ k → k < count p → (pairOf p k).1 ≠ eB) : PageOK (addS p i x) ∧ validB (addS p i x) = true ∧ pairsS (addS p i x) = (pairsS p).take i ++ x :: (pairsS p).drop i ∧ (∀ j, 0 ≤ j → j < 20 → j ≠ 9 → j ≠ 11 → G (addS p i x) j = G p j) := by
  have R := add_room hp hv hk hx hr
  obtain ⟨b1, b2, b3, b4, b5⟩ := add_base hp hv hk hx hr
  have hcb : count (if costS x > gapS p then compS p else p) = count p := by unfold count; rw [b5]
  have hpo : ∀ k : Nat, k < count p → pairOf (if costS x > gapS p then compS p else p) k = pairOf p k := by
    intro k hk
    have h1 : (pairsS (if costS x > gapS p then compS p else p))[k]? = (pairsS p)[k]? := by rw [b3]
    unfold pairsS pairsTo at h1
    rw [hcb, List.getElem?_map, List.getElem?_map, List.getElem?_range hk] at h1
    simpa using h1
  obtain ⟨f1, f2, f3, f4, f5, f6⟩ := putAt_facts b1 b2 (i := i) (by rw [hcb]; exact hi) R (by rw [b4 8 (by omega) (by omega) (by omega) (by omega)]; exact ha) (fun k h1 h2 => by rw [hcb] at h2; rw [hpo k h2]; exact hne k h1 h2)
  unfold addS
  exact ⟨f1, f2, by rw [f3, b3], fun j h0 h1 h2 h3 => by rw [f4 j h0 h1 h2 h3, b4 j h0 h1 h2 h3]⟩
end
end Go.Ev.L
