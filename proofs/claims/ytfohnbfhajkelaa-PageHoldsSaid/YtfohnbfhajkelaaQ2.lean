/- Law 16: compacted pages; a slot taken away. -/
import Derived.Test.YtfohnbfhajkelaaQ1
set_option linter.unusedVariables false
set_option linter.unusedSimpArgs false
set_option linter.unusedSectionVars false
set_option maxRecDepth 10000
namespace Go.Ev.L
open Go Go.Ev Go.Ev.M

def baseS (p : List Int) : List Int := mk fun j => if j = 9 then 0 else if j = 11 then 128 else if 20 ≤ j then 0 else G p j
def compS (p : List Int) : List Int := foldP (baseS p) (pairsS p)
theorem G_baseS (p : List Int) {j : Int} (h0 : 0 ≤ j) (h1 : j < 128) : G (baseS p) j = if j = 9 then 0 else if j = 11 then 128 else if 20 ≤ j then 0 else G p j := G_mk _ h0 h1
section
variable {p : List Int} (hp : PageOK p) (hv : validB p = true)
include hp hv
theorem sum_108 : sumC (pairsS p) ≤ 108 := by
  have h := load_gap hp hv
  have e := head_spec (valid_head hv)
  omega
theorem base_ok : PageOK (baseS p) ∧ validB (baseS p) = true ∧ count (baseS p) = 0 ∧ lowS (baseS p) = lowS p ∧ highS (baseS p) = highS p ∧ pairsS (baseS p) = [] := by
  have hq : PageOK (baseS p) := mk_page fun j h0 h1 => by
    have := hp.2.G j
    split; · omega
    split; · omega
    split <;> omega
  have g9 : G (baseS p) 9 = 0 := by rw [G_baseS p (by omega) (by omega), if_pos rfl]
  have g11 : G (baseS p) 11 = 128 := by rw [G_baseS p (by omega) (by omega), if_neg (by omega), if_pos rfl]
  obtain ⟨h1, h2, h3⟩ := head_of hp hq (valid_head hv) (fun j a b c d => by rw [G_baseS p (by omega) (by omega), if_neg c, if_neg d, if_neg (by omega)]) (by omega) (by omega) (by omega)
  obtain ⟨a1, a2⟩ := assemble hq h1 (l := []) (by rw [g9]; rfl) (fun _ => 0) (fun i hi => by simp at hi) (fun i j _ hj => by simp at hj) (fun i hi => by simp at hi)
  exact ⟨hq, a1, by unfold count; rw [g9]; rfl, h2, h3, a2⟩
theorem comp_pre : (∀ (k : Nat) (hk : k < (pairsS p).length), allowedS (G (baseS p) 8 == 1) ((count (baseS p) : Int) + k) ((pairsS p)[k]) = 0) ∧ 20 + G (baseS p) 9 + sumC (pairsS p) ≤ G (baseS p) 11 ∧ (pairsS p).length ≤ 1000 := by
  obtain ⟨b1, b2, b3, _⟩ := base_ok hp hv
  have hs := sum_108 hp hv
  obtain ⟨hc, hc9⟩ := count_le hp hv
  have hl : (pairsS p).length = count p := pairsTo_length _ _
  refine ⟨fun k hk => ?_, ?_, by omega⟩
  · rw [b3, G_baseS p (by omega) (by omega), if_neg (by omega), if_neg (by omega), if_neg (by omega)]
    have := valid_allowed hp hv (i := k) (by omega)
    have e : (pairsS p)[k] = pairOf p k := by simp [pairsS, pairsTo]
    rw [e, show ((0 : Nat) : Int) + (k : Int) = k by omega]; exact this
  · rw [G_baseS p (by omega) (by omega), if_pos rfl, G_baseS p (by omega) (by omega), if_neg (by omega), if_pos rfl]; omega
theorem comp_facts : PageOK (compS p) ∧ validB (compS p) = true ∧ pairsS (compS p) = pairsS p ∧ (∀ j, 0 ≤ j → j < 20 → j ≠ 9 → j ≠ 11 → G (compS p) j = G p j) ∧ G (compS p) 9 = G p 9 ∧ G (compS p) 11 = 128 - (sumC (pairsS p) - (pairsS p).length) := by
  obtain ⟨b1, b2, b3, b4, b5, b6⟩ := base_ok hp hv
  obtain ⟨c1, c2, c3⟩ := comp_pre hp hv
  obtain ⟨hc, hc9⟩ := count_le hp hv
  have hl : (pairsS p).length = count p := pairsTo_length _ _
  have F := fold_valid (pairsS p) b1 b2 c1 c2
  refine ⟨F.page, F.valid, by have := F.pairs; rw [b6] at this; exact this, fun j h0 h1 h2 h3 => ?_, ?_, ?_⟩
  · unfold compS; rw [F.head j h0 h1 h2 h3, G_baseS p (by omega) (by omega), if_neg h2, if_neg h3, if_neg (by omega)]
  · unfold compS; rw [F.nine, G_baseS p (by omega) (by omega), if_pos rfl]; omega
  · unfold compS; rw [F.top, G_baseS p (by omega) (by omega), if_neg (by omega), if_pos rfl]
theorem page_compact' : m_page_compact p (pairsS p) = some (compS p) := by
  obtain ⟨b1, b2, b3, b4, b5, b6⟩ := base_ok hp hv
  obtain ⟨c1, c2, c3⟩ := comp_pre hp hv
  have e : List.set (List.set (splice p (20 : Int) (List.replicate 108 (0 : Int))) 9 (0 : Int)) 11 (128 : Int) = baseS p := by
    have hl : (splice p (20 : Int) (List.replicate 108 (0 : Int))).length = 128 := by rw [splice_length _ _ (by omega) (by rw [List.length_replicate, hp.1]; decide), hp.1]
    refine eq_mk (by rw [List.length_set, List.length_set, hl]) fun j h0 h1 => ?_
    rw [G_set (by rw [List.length_set, hl]; omega) _ h0, G_set (by rw [hl]; omega) _ h0, G_splice (by omega) (by rw [List.length_replicate, hp.1]; decide) j h0, List.length_replicate]
    by_cases d1 : j = 11
    · subst d1; rfl
    by_cases d2 : j = 9
    · subst d2; rfl
    rw [if_neg (by omega), if_neg (by omega), if_neg d2, if_neg d1]
    by_cases d3 : 20 ≤ j
    · rw [if_pos (by omega), if_pos d3]
      unfold G
      rw [List.getD_eq_getElem?_getD, List.getElem?_replicate]
      split <;> rfl
    · rw [if_neg (by omega), if_neg d3]
  have L := compact_l0 b1 b2 c1 c2 c3 (pairsS p).length FUEL FUEL 0 (by omega) (by have := FUEL_big; omega)
  unfold m_page_compact m_page_compact_a
  rw [e]
  exact L
theorem ref16_Compact' : m_ticketlineref16_Compact p = some (compS p) := by
  obtain ⟨b1, b2, b3, b4, b5, b6⟩ := base_ok hp hv
  obtain ⟨c1, c2, c3⟩ := comp_pre hp hv
  have hb : PageOK ((p.set 9 0).set 11 128) := (hp.set 9 (by omega) (by omega)).set 11 (by omega) (by omega)
  have gb : ∀ j : Int, 0 ≤ j → G ((p.set 9 0).set 11 128) j = if j = 11 then 128 else if j = 9 then 0 else G p j := fun j hj => by
    rw [G_set (by rw [List.length_set, hp.1]; omega) _ hj, G_set (by rw [hp.1]; omega) _ hj]; rfl
  have hr : ∀ j : Nat, j < 20 → G (baseS p) j = G ((p.set 9 0).set 11 128) j := fun j hj => by
    rw [gb j (by omega), G_baseS p (by omega) (by omega)]
    by_cases d1 : (j : Int) = 11
    · rw [if_pos d1, if_neg (by omega), if_pos d1]
    by_cases d2 : (j : Int) = 9
    · rw [if_neg d1, if_pos d2]; simp [d2]
    rw [if_neg d1, if_neg d2, if_neg d2, if_neg d1, if_neg (by omega)]
  have L := comp_l0 b1 hb (fun j h0 h1 => by rw [G_baseS p (by omega) (by omega), if_neg (by omega), if_neg (by omega), if_pos (by omega)]) hr b2 c1 c2 c3 (List.replicate 128 0) 108 FUEL FUEL 20 ((p.set 9 0).set 11 128) (by have := FUEL_big; omega) (by omega) (by have := FUEL_big; omega) (by omega) hb.1 (fun j hj => by
    by_cases c : j < 20
    · rw [if_pos c, hr j c]
    · rw [if_neg c])
  unfold m_ticketlineref16_Compact m_ticketlineref16_Compact_a
  rw [ref_Pairs hp hv]
  simp only [Option.bind_some]
  exact L
end
theorem page_Compact {p : List Int} (hp : PageOK p) : m_page_Compact p = some (if validB p = true then (compS p, (0 : Int)) else (List.replicate 128 0, 12)) := by
  unfold m_page_Compact
  rw [slot_Pairs hp]
  cases hv : validB p with
  | true => simp only [if_true, Option.bind_some, bne_self_eq_false, Bool.false_eq_true, if_false, page_compact' hp hv]
  | false =>
    have e : ((12 : Int) != 0) = true := rfl
    simp only [Bool.false_eq_true, if_false, Option.bind_some, e, if_true]

def takeS (p : List Int) (i : Nat) : List Int := mk fun j => if j = 9 then G p 9 - 1 else if 20 + i ≤ j ∧ j < 19 + G p 9 then G p (j + 1) else if j = 19 + G p 9 then 0 else G p j
theorem G_takeS (p : List Int) (i : Nat) {j : Int} (h0 : 0 ≤ j) (h1 : j < 128) : G (takeS p i) j = if j = 9 then G p 9 - 1 else if 20 + i ≤ j ∧ j < 19 + G p 9 then G p (j + 1) else if j = 19 + G p 9 then 0 else G p j := G_mk _ h0 h1
theorem allowed_mono {leaf : Bool} {i j : Int} {x : Pr} (h : allowedS leaf i x = 0) (hij : 0 < j → x.1 = eB → 0 < i) : allowedS leaf j x = 0 := by
  obtain ⟨a1, a2, a3, a4⟩ := allowed_spec h
  unfold allowedS
  rw [if_neg, if_neg, if_neg (by omega)]
  · rintro ⟨h1, h2⟩; rw [a2 h1] at h2; cases h2
  · rintro ⟨h1, h2⟩
    rcases h2 with h2 | h2
    · exact a1 ⟨h1, .inl h2⟩
    · exact a1 ⟨h1, .inr (hij h2 h1)⟩
section
variable {p : List Int} (hp : PageOK p) (hv : validB p = true) {i : Nat} (hi : i < count p)
include hp hv hi
theorem page_take : m_page_take p i = some (takeS p i) := by
  obtain ⟨hc, hc9⟩ := count_le hp hv
  have w1 : IntKind.i64.wrap (G p 9) = G p 9 := wI (by omega) (by omega)
  have w2 : IntKind.i64.wrap (20 + G p 9) = 20 + G p 9 := wI (by omega) (by omega)
  have w3 : IntKind.i64.wrap (20 + G p 9 - 1) = 19 + G p 9 := by rw [wI (by omega) (by omega)]; omega
  have w4 : IntKind.i64.wrap (20 + (i : Int)) = 20 + i := wI (by omega) (by omega)
  have w5 : IntKind.i64.wrap (20 + (i : Int) + 1) = 21 + i := by rw [wI (by omega) (by omega)]; omega
  have w6 : IntKind.i64.wrap (19 + G p 9 + 1) = 20 + G p 9 := by rw [wI (by omega) (by omega)]; omega
  have hwl : (win p (21 + i) (20 + G p 9 - (21 + i))).length = (G p 9 - 1 - i).toNat := by rw [win_len (by omega) (by omega) (by rw [hp.1]; omega)]; congr 1; omega
  have ht : List.take (19 + G p 9 - (20 + i)).toNat (win p (21 + i) (20 + G p 9 - (21 + i))) = win p (21 + i) (20 + G p 9 - (21 + i)) := List.take_of_length_le (by rw [hwl]; omega)
  have hsl : (splice p (20 + i) (win p (21 + i) (20 + G p 9 - (21 + i)))).length = 128 := by rw [splice_length _ _ (by omega) (by rw [hwl, hp.1]; omega), hp.1]
  have gs : ∀ j : Int, 0 ≤ j → j < 128 → G (List.set (splice p (20 + i) (win p (21 + i) (20 + G p 9 - (21 + i)))) (19 + G p 9).toNat 0) j = if j = 19 + G p 9 then 0 else if 20 + i ≤ j ∧ j < 19 + G p 9 then G p (j + 1) else G p j := by
    intro j h0 h1
    rw [G_set (by rw [hsl]; omega) _ h0, G_splice (by omega) (by rw [hwl, hp.1]; omega) j h0, hwl]
    by_cases d1 : j = 19 + G p 9
    · rw [if_pos (by omega), if_pos d1]
    · rw [if_neg (by omega), if_neg d1]
      by_cases d2 : 20 + i ≤ j ∧ j < 19 + G p 9
      · rw [if_pos (by omega), if_pos d2, G_win (by omega) _ (by omega) (by omega)]; congr 1; omega
      · rw [if_neg (by omega), if_neg d2]
  have w7 : IntKind.u64.wrap (G (List.set (splice p (20 + i) (win p (21 + i) (20 + G p 9 - (21 + i)))) (19 + G p 9).toNat 0) 9 - 1) = G p 9 - 1 := by
    rw [gs 9 (by omega) (by omega), if_neg (by omega), if_neg (by omega), wU (by omega) (by omega)]
  have e : List.set (List.set (splice p (20 + i) (win p (21 + i) (20 + G p 9 - (21 + i)))) (19 + G p 9).toNat 0) 9 (G p 9 - 1) = takeS p i := by
    refine eq_mk (by rw [List.length_set, List.length_set, hsl]) fun j h0 h1 => ?_
    rw [G_set (by rw [List.length_set, hsl]; omega) _ h0, gs j h0 h1]
    by_cases d0 : j = 9
    · rw [if_pos (by omega), if_pos d0]
    rw [if_neg (by omega), if_neg d0]
    by_cases d1 : j = 19 + G p 9
    · rw [if_pos d1, if_neg (by omega), if_pos d1]
    · rw [if_neg d1]
      by_cases d2 : 20 + i ≤ j ∧ j < 19 + G p 9
      · rw [if_pos d2, if_pos d2]
      · rw [if_neg d2, if_neg d2, if_neg d1]
  unfold m_page_take
  simp only [rd_G, w1, w2, w3, w4, w5, w6, ht, w7, e, show (0 : Int) ≤ 19 + G p 9 by omega, show 19 + G p 9 ≤ 128 by omega, show (0 : Int) ≤ 20 + (i : Int) by omega, show 20 + (i : Int) ≤ 19 + G p 9 by omega, show (0 : Int) ≤ 20 + G p 9 by omega, show 20 + G p 9 ≤ 128 by omega, show (0 : Int) ≤ 21 + (i : Int) by omega, show 21 + (i : Int) ≤ 20 + G p 9 by omega, show 19 + G p 9 < 128 by omega, if_true]
theorem refTake_l0 (z : List Int) : ∀ (m n N a : Nat) (r : List Int), (a : Int) + m = 19 + G p 9 → m < n → 20 + i ≤ a → r.length = 128 → (∀ j : Int, 0 ≤ j → j < 128 → G r j = if 20 + i ≤ j ∧ j < a then G p (j + 1) else G p j) →
    m_ticketlineref16_Take_l0 N n (19 + G p 9) a r z = some (takeS p i) := by
  obtain ⟨hc, hc9⟩ := count_le hp hv
  intro m
  induction m with
  | zero =>
    intro n N a r hm hn ha hl hr
    obtain ⟨n, rfl⟩ : ∃ q, n = q + 1 := ⟨n - 1, by omega⟩
    have g9 : G (r.set (19 + G p 9).toNat 0) 9 = G p 9 := by rw [G_set (by omega) _ (by omega), if_neg (by omega), hr 9 (by omega) (by omega), if_neg (by omega)]
    have w7 : IntKind.u64.wrap (G p 9 - 1) = G p 9 - 1 := wU (by omega) (by omega)
    have e : (r.set (19 + G p 9).toNat 0).set 9 (G p 9 - 1) = takeS p i := by
      refine eq_mk (by rw [List.length_set, List.length_set, hl]) fun j h0 h1 => ?_
      rw [G_set (by rw [List.length_set]; omega) _ h0, G_set (by omega) _ h0]
      by_cases d0 : j = 9
      · rw [if_pos (by omega), if_pos d0]
      rw [if_neg (by omega), if_neg d0]
      by_cases d1 : j = 19 + G p 9
      · rw [if_pos (by omega), if_neg (by omega), if_pos d1]
      · rw [if_neg (by omega), hr j h0 h1]
        by_cases d2 : 20 + i ≤ j ∧ j < 19 + G p 9
        · rw [if_pos (by omega), if_pos d2]
        · rw [if_neg (by omega), if_neg d2, if_neg d1]
    simp only [m_ticketlineref16_Take_l0, m_ticketlineref16_Take_l0_b, show ¬ (a : Int) < 19 + G p 9 by omega, decide_false, Bool.false_eq_true, if_false, show (0 : Int) ≤ 19 + G p 9 by omega, show 19 + G p 9 < 128 by omega, if_true, rd_G, g9, w7, e]
  | succ m ih =>
    intro n N a r hm hn ha hl hr
    obtain ⟨n, rfl⟩ : ∃ q, n = q + 1 := ⟨n - 1, by omega⟩
    have w1 : IntKind.i64.wrap ((a : Int) + 1) = ((a + 1 : Nat) : Int) := by rw [wI (by omega) (by omega)]; omega
    have I := ih n N (a + 1) (r.set a (G r ((a + 1 : Nat) : Int))) (by omega) (by omega) (by omega) (by rw [List.length_set, hl]) fun j h0 h1 => by
      have e1 : G r ((a + 1 : Nat) : Int) = G p ((a + 1 : Nat) : Int) := by rw [hr _ (by omega) (by omega), if_neg (by omega)]
      rw [G_set (by omega) _ h0, e1]
      by_cases d : j = a
      · rw [if_pos d, if_pos (by omega)]; congr 1; omega
      · rw [if_neg d, hr j h0 h1]
        by_cases d2 : 20 + i ≤ j ∧ j < a
        · rw [if_pos d2, if_pos (by omega)]
        · rw [if_neg d2, if_neg (by omega)]
    simp only [m_ticketlineref16_Take_l0, m_ticketlineref16_Take_l0_b, show (a : Int) < 19 + G p 9 by omega, decide_true, if_true, w1, Int.natCast_nonneg, show ((a + 1 : Nat) : Int) < 128 by omega, show (a : Int) < 128 by omega, rd_G, Int.toNat_natCast, I]
theorem ref16_Take : m_ticketlineref16_Take p i = some (takeS p i) := by
  obtain ⟨hc, hc9⟩ := count_le hp hv
  have w1 : IntKind.i64.wrap (G p 9) = G p 9 := wI (by omega) (by omega)
  have w2 : IntKind.i64.wrap (20 + G p 9) = 20 + G p 9 := wI (by omega) (by omega)
  have w3 : IntKind.i64.wrap (20 + G p 9 - 1) = 19 + G p 9 := by rw [wI (by omega) (by omega)]; omega
  have w4 : IntKind.i64.wrap (20 + (i : Int)) = ((20 + i : Nat) : Int) := by rw [wI (by omega) (by omega)]; omega
  unfold m_ticketlineref16_Take m_ticketlineref16_Take_a
  simp only [rd_G, w1, w2, w3, w4]
  exact refTake_l0 hp hv hi (List.replicate 128 0) (19 + G p 9 - (20 + i)).toNat FUEL FUEL (20 + i) p (by omega) (by have := FUEL_big; omega) (by omega) hp.1 fun j h0 h1 => by rw [if_neg (by omega)]
theorem take_facts : PageOK (takeS p i) ∧ validB (takeS p i) = true ∧ pairsS (takeS p i) = (pairsS p).eraseIdx i ∧ (∀ j, 0 ≤ j → j < 20 → j ≠ 9 → G (takeS p i) j = G p j) ∧ G (takeS p i) 9 = G p 9 - 1 := by
  obtain ⟨hc, hc9⟩ := count_le hp hv
  have hh := head_spec (valid_head hv)
  have hl : (pairsS p).length = count p := pairsTo_length _ _
  have hq : PageOK (takeS p i) := mk_page fun j h0 h1 => by
    have := hp.2.G j
    have := hp.2.G (j + 1)
    split; · omega
    split; · omega
    split <;> omega
  have g9 : G (takeS p i) 9 = G p 9 - 1 := by rw [G_takeS p i (by omega) (by omega), if_pos rfl]
  have gl : ∀ j, 0 ≤ j → j < 20 → j ≠ 9 → G (takeS p i) j = G p j := fun j h0 h1 h2 => by rw [G_takeS p i (by omega) (by omega), if_neg h2, if_neg (by omega), if_neg (by omega)]
  obtain ⟨h1, h2, h3⟩ := head_of hp hq (valid_head hv) (fun j a b c d => gl j (by omega) b c) (by omega) (by rw [gl 11 (by omega) (by omega) (by omega)]; omega) (by rw [gl 11 (by omega) (by omega) (by omega)]; omega)
  have hle : ((pairsS p).eraseIdx i).length = count p - 1 := by rw [List.length_eraseIdx_of_lt (by omega), hl]
  let π : Nat → Nat := fun k => if k < i then k else k + 1
  have hπ : ∀ k, k < count p - 1 → π k < count p := fun k hk => by show (if k < i then k else k + 1) < _; split <;> omega
  have hπe : ∀ (k : Nat) (hk : k < ((pairsS p).eraseIdx i).length), ((pairsS p).eraseIdx i)[k] = pairOf p (π k : Nat) := fun k hk => by
    rw [List.getElem_eraseIdx]
    show _ = pairOf p ((if k < i then k else k + 1 : Nat) : Int)
    split <;> simp [pairsS, pairsTo]
  obtain ⟨a1, a2⟩ := assemble hq h1 (l := (pairsS p).eraseIdx i) (by rw [g9, hle]; omega) (fun k => atS (sw p (π k : Nat))) (fun k hk => by
      have hk' : k < count p - 1 := by omega
      obtain ⟨s, e1, _⟩ := slot_is hp hv (hπ k hk')
      rw [hπe k hk]
      refine ⟨?_, by rw [gl 11 (by omega) (by omega) (by omega)]; exact s.low, s.high, fun j j0 j1 => ?_⟩
      · rw [← s.word]
        unfold sw
        rw [G_takeS p i (by omega) (by omega), if_neg (by omega)]
        show _ = G p (20 + ((if k < i then k else k + 1 : Nat) : Int))
        by_cases c : k < i
        · rw [if_pos c, if_neg (by omega), if_neg (by omega)]
        · rw [if_neg c, if_pos (by omega)]; congr 1
      · rw [← s.recs j j0 j1]
        have := s.low
        have := s.high
        rw [G_takeS p i (by omega) (by omega), if_neg (by omega), if_neg (by omega), if_neg (by omega)])
    (fun k m hkm hm => by
      rw [hπe m hm, hπe k (by omega)]
      obtain ⟨_, e1, _⟩ := slot_is hp hv (hπ k (by omega))
      obtain ⟨_, e2, _⟩ := slot_is hp hv (hπ m (by omega))
      rw [← e1, ← e2]
      refine slots_apart hp hv ?_ (hπ m (by omega))
      show (if k < i then k else k + 1) < (if m < i then m else m + 1)
      split <;> split <;> omega)
    (fun k hk => by
      rw [hπe k hk, gl 8 (by omega) (by omega) (by omega)]
      refine allowed_mono (valid_allowed hp hv (hπ k (by omega))) fun h _ => ?_
      show (0 : Int) < ((if k < i then k else k + 1 : Nat) : Int)
      split <;> omega)
  exact ⟨hq, a1, a2, gl, g9⟩
end
end Go.Ev.L
