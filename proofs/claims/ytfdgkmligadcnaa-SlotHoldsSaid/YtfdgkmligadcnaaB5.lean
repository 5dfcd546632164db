/- What the other functions of a page answer; that the program's answers are the reference's. -/
import Derived.Test.YtfdgkmligadcnaaB4
set_option linter.unusedVariables false
set_option linter.unusedSimpArgs false
namespace Go.Ev.L
open Go Go.Ev Go.Ev.M

abbrev Pr := ByteArray × (ByteArray × Unit)
abbrev eB : ByteArray := ⟨#[]⟩

theorem strEq_refl (x : ByteArray) : strEq x x = true := by simp [strEq]
theorem beq_refl_str (x : ByteArray) : Ty.beq .str x x = true := by simp [Ty.beq]
theorem beq_refl_pr (x : Pr) : Ty.beq (.pair .str (.pair .str .nl)) x x = true := by simp [Ty.beq]

def GP (l : List Pr) (i : Int) : Pr := l.getD i.toNat (eB, (eB, ()))
theorem rd_GP (l : List Pr) (i : Int) : rd (.pair .str (.pair .str .nl)) l i = GP l i := rfl
theorem GP_get {l : List Pr} {i : Nat} (h : i < l.length) : GP l (i : Int) = l[i] := by
  unfold GP; rw [show (i : Int).toNat = i by omega, List.getD_eq_getElem?_getD, List.getElem?_eq_getElem h]; rfl
theorem G_get {l : List Int} {i : Nat} (h : i < l.length) : G l (i : Int) = l[i] := by
  unfold G; rw [show (i : Int).toNat = i by omega, List.getD_eq_getElem?_getD, List.getElem?_eq_getElem h]; rfl

theorem strOf_size (l : List Int) : (strOf l).size = l.length := by
  show (strOf l).data.size = _
  simp [strOf]
theorem U_size {l : List Int} {n : Int} {s : ByteArray} (h : U l n = some s) : s.size ≤ n.toNat := by
  unfold U at h
  split at h
  · cases h; rw [strOf_size, List.length_take]; omega
  · cases h
theorem pairOf_size (p : List Int) (i : Int) : (pairOf p i).1.size ≤ 256 ∧ (pairOf p i).2.1.size ≤ 256 := by
  have hk := keyS_range (sw p i)
  have hv := valS_range (sw p i)
  unfold pairOf
  dsimp only
  constructor
  · cases h : keyOf p i with
    | none => show (eB).size ≤ 256; decide
    | some s => have := U_size h; show s.size ≤ 256; omega
  · cases h : valOf p i with
    | none => show (eB).size ≤ 256; decide
    | some s => have := U_size h; show s.size ≤ 256; omega

/-- small strings -/
def SmallL (l : List Pr) : Prop := l.length ≤ 1000 ∧ ∀ x, x ∈ l → x.1.size ≤ 1000 ∧ x.2.1.size ≤ 1000
theorem pairsTo_small {p : List Int} {n : Nat} (h : n ≤ 1000) : SmallL (pairsTo p n) := by
  refine ⟨by rw [pairsTo_length]; exact h, fun x hx => ?_⟩
  obtain ⟨i, _, rfl⟩ := List.mem_map.1 hx
  have := pairOf_size p (i : Int)
  omega

def costS (x : Pr) : Int := 1 + W x.1.size + W x.2.1.size
def sumC : List Pr → Int
  | [] => 0
  | x :: r => costS x + sumC r
theorem costS_range {x : Pr} (h : x.1.size ≤ 1000 ∧ x.2.1.size ≤ 1000) : 1 ≤ costS x ∧ costS x ≤ 1000 := by
  have h1 := W_le (n := (x.1.size : Int)) (by omega)
  have h2 := W_le (n := (x.2.1.size : Int)) (by omega)
  have h3 := W_nonneg (x.1.size : Int)
  have h4 := W_nonneg (x.2.1.size : Int)
  unfold costS; omega
theorem slot_Cost {a b : ByteArray} (ha : a.size ≤ 100000) (hb : b.size ≤ 100000) : m_slot_Cost a b = some (costS (a, (b, ()))) := by
  have h1 := W_le (n := (a.size : Int)) (by omega)
  have h2 := W_le (n := (b.size : Int)) (by omega)
  unfold m_slot_Cost costS
  rw [keys_Words (by omega), keys_Words (by omega)]
  simp (disch := omega) only [Option.bind_some, wI]
theorem ref_Cost {x : Pr} (ha : x.1.size ≤ 100000) (hb : x.2.1.size ≤ 100000) : m_ticketlineref14_Cost x = some (costS x) := by
  have h1 := W_le (n := (x.1.size : Int)) (by omega)
  have h2 := W_le (n := (x.2.1.size : Int)) (by omega)
  unfold m_ticketlineref14_Cost costS
  rw [ref14_Words (by omega) (by omega), ref14_Words (by omega) (by omega)]
  simp (disch := omega) only [Option.bind_some, wI]

theorem load_l0 {l : List Pr} (hl : SmallL l) : ∀ (m n N i : Nat) (acc : Int), i + m = l.length → m < n → 0 ≤ acc → acc ≤ 1000 * i →
    m_slot_Load_l0 N n acc l.length i l = some (acc + sumC (l.drop i), 0) := by
  intro m
  induction m with
  | zero =>
    intro n N i acc hm hn h0 h1
    obtain ⟨n, rfl⟩ : ∃ q, n = q + 1 := ⟨n - 1, by omega⟩
    obtain rfl : i = l.length := by omega
    simp [m_slot_Load_l0, m_slot_Load_l0_b, sumC]
  | succ m ih =>
    intro n N i acc hm hn h0 h1
    obtain ⟨n, rfl⟩ : ∃ q, n = q + 1 := ⟨n - 1, by omega⟩
    have hi : i < l.length := by omega
    have hx := hl.2 l[i] (List.getElem_mem hi)
    have hc := costS_range hx
    have hlen := hl.1
    have hd : l.drop i = l[i] :: l.drop (i + 1) := List.drop_eq_getElem_cons hi
    have := ih n N (i + 1) (acc + costS l[i]) (by omega) (by omega) (by omega) (by omega)
    have w1 : IntKind.i64.wrap (acc + costS l[i]) = acc + costS l[i] := wI (by omega) (by omega)
    have w2 : IntKind.i64.wrap ((i : Int) + 1) = ((i + 1 : Nat) : Int) := by rw [wI (by omega) (by omega)]; omega
    have hcost : m_slot_Cost l[i].1 l[i].2.1 = some (costS l[i]) := slot_Cost (by omega) (by omega)
    simp only [m_slot_Load_l0, m_slot_Load_l0_b, rd_GP, GP_get hi, show (i : Int) < l.length by omega, decide_true, if_true, Int.natCast_nonneg, hcost, Option.bind_some, w1, w2, this]
    rw [hd]; simp only [sumC, Int.add_assoc]
theorem sum_l0 {l : List Pr} (hl : SmallL l) : ∀ (m n N i : Nat) (acc : Int), i + m = l.length → m < n → 0 ≤ acc → acc ≤ 1000 * i →
    m_ticketlineref14_Sum_l0 N n l acc i = some (acc + sumC (l.drop i)) := by
  intro m
  induction m with
  | zero =>
    intro n N i acc hm hn h0 h1
    obtain ⟨n, rfl⟩ : ∃ q, n = q + 1 := ⟨n - 1, by omega⟩
    obtain rfl : i = l.length := by omega
    simp [m_ticketlineref14_Sum_l0, m_ticketlineref14_Sum_l0_b, sumC]
  | succ m ih =>
    intro n N i acc hm hn h0 h1
    obtain ⟨n, rfl⟩ : ∃ q, n = q + 1 := ⟨n - 1, by omega⟩
    have hi : i < l.length := by omega
    have hx := hl.2 l[i] (List.getElem_mem hi)
    have hc := costS_range hx
    have hlen := hl.1
    have hd : l.drop i = l[i] :: l.drop (i + 1) := List.drop_eq_getElem_cons hi
    have := ih n N (i + 1) (acc + costS l[i]) (by omega) (by omega) (by omega) (by omega)
    have w1 : IntKind.i64.wrap (acc + costS l[i]) = acc + costS l[i] := wI (by omega) (by omega)
    have w2 : IntKind.i64.wrap ((i : Int) + 1) = ((i + 1 : Nat) : Int) := by rw [wI (by omega) (by omega)]; omega
    have hcost : m_ticketlineref14_Cost l[i] = some (costS l[i]) := ref_Cost (by omega) (by omega)
    simp only [m_ticketlineref14_Sum_l0, m_ticketlineref14_Sum_l0_b, rd_GP, GP_get hi, show (i : Int) < l.length by omega, decide_true, if_true, Int.natCast_nonneg, hcost, Option.bind_some, w1, w2, this]
    rw [hd]; simp only [sumC, Int.add_assoc]
theorem ref_Sum {l : List Pr} (hl : SmallL l) : m_ticketlineref14_Sum l = some (sumC l) := by
  unfold m_ticketlineref14_Sum m_ticketlineref14_Sum_a
  have := sum_l0 hl l.length FUEL FUEL 0 0 (by omega) (by have := FUEL_big; have := hl.1; omega) (by omega) (by omega)
  simpa using this

theorem same_l0 (l : List Pr) (hl : l.length ≤ 1000) : ∀ (m n N i : Nat), i + m = l.length → m < n → m_ticketlineref14_Same_l0 N n l l i = some true := by
  intro m
  induction m with
  | zero =>
    intro n N i hm hn
    obtain ⟨n, rfl⟩ : ∃ q, n = q + 1 := ⟨n - 1, by omega⟩
    obtain rfl : i = l.length := by omega
    simp [m_ticketlineref14_Same_l0, m_ticketlineref14_Same_l0_b]
  | succ m ih =>
    intro n N i hm hn
    obtain ⟨n, rfl⟩ : ∃ q, n = q + 1 := ⟨n - 1, by omega⟩
    have := ih n N (i + 1) (by omega) (by omega)
    have w2 : IntKind.i64.wrap ((i : Int) + 1) = ((i + 1 : Nat) : Int) := by rw [wI (by omega) (by omega)]; omega
    simp only [m_ticketlineref14_Same_l0, m_ticketlineref14_Same_l0_b, show (i : Int) < l.length by omega, decide_true, if_true, Int.natCast_nonneg, beq_refl_pr, Bool.not_true, Bool.false_eq_true, if_false, w2, this]
theorem same_refl (l : List Pr) (hl : l.length ≤ 1000) : m_ticketlineref14_Same l l = some true := by
  unfold m_ticketlineref14_Same m_ticketlineref14_Same_a
  simpa using same_l0 l hl l.length FUEL FUEL 0 (by omega) (by have := FUEL_big; omega)

/-! ### a used page -/
theorem head_spec {p : List Int} (h : headB p = true) : 1 ≤ G p 8 ∧ G p 8 ≤ 6 ∧ G p 9 ≤ 108 ∧ G p 10 ≤ 511 ∧ 20 + G p 9 ≤ G p 11 ∧ G p 11 ≤ 128 ∧ (fenceS p 12).isSome = true ∧ (fenceS p 16).isSome = true := by
  simp only [headB, Bool.and_eq_true, decide_eq_true_eq] at h
  obtain ⟨⟨⟨⟨⟨⟨⟨h1, h2⟩, h3⟩, h4⟩, h5⟩, h6⟩, h7⟩, h8⟩ := h
  exact ⟨h1, h2, h3, h4, h5, h6, h7, h8⟩
theorem validFrom_spec {p : List Int} : ∀ (m i : Nat), validFrom p i m = true ↔ ∀ j : Nat, i ≤ j → j < i + m → slotB p j = true := by
  intro m
  induction m with
  | zero => intro i; simp only [validFrom, true_iff]; intro j h1 h2; omega
  | succ m ih =>
    intro i
    simp only [validFrom, Bool.and_eq_true, ih]
    constructor
    · rintro ⟨h1, h2⟩ j h3 h4
      by_cases e : j = i
      · subst e; exact h1
      · exact h2 j (by omega) (by omega)
    · intro h
      exact ⟨h i (by omega) (by omega), fun j h1 h2 => h j (by omega) (by omega)⟩
theorem valid_head {p : List Int} (h : validB p = true) : headB p = true := by
  simp only [validB, Bool.and_eq_true] at h; exact h.1
theorem valid_slot {p : List Int} (h : validB p = true) {j : Nat} (hj : j < count p) : slotB p j = true := by
  simp only [validB, Bool.and_eq_true] at h
  exact (validFrom_spec _ _).1 h.2 j (by omega) (by omega)
structure Good (p : List Int) (i : Int) : Prop where
  sized : Sized p i
  key : ∃ s, keyOf p i = some s
  val : ∃ s, valOf p i = some s
  child : G p 8 > 1 → 1 ≤ G p (midS (sw p i)) ∧ G p (midS (sw p i)) ≤ 511
theorem good_spec {p : List Int} (hp : PageOK p) {i : Int} (h : goodB p i = true) : Good p i := by
  simp only [goodB, Bool.and_eq_true, textB, childB, Bool.or_eq_true, Bool.not_eq_true', decide_eq_true_eq, decide_eq_false_iff_not, Option.isSome_iff_exists] at h
  obtain ⟨⟨h1, h2, h3⟩, h4⟩ := h
  exact ⟨sized_spec hp h1, h2, h3, fun h => h4.resolve_left fun h' => h' h⟩
theorem valid_good {p : List Int} (hp : PageOK p) (h : validB p = true) {j : Nat} (hj : j < count p) : Good p j := by
  have := valid_slot h hj
  simp only [slotB, Bool.and_eq_true] at this
  exact good_spec hp this.1
theorem count_le {p : List Int} (hp : PageOK p) (h : validB p = true) : count p ≤ 108 ∧ (count p : Int) = G p 9 := by
  have h1 := head_spec (valid_head h)
  have h9 := hp.2.G 9
  unfold count; omega

theorem refPairs_l0 {p : List Int} (hp : PageOK p) (hv : validB p = true) : ∀ (m n N i : Nat), i + m = count p → m < n → m_ticketlineref14_Pairs_l0 N n i p (pairsTo p i) = some (pairsS p) := by
  obtain ⟨hc, hc9⟩ := count_le hp hv
  have h9 := hp.2.G 9
  have w9 : IntKind.i64.wrap (G p 9) = G p 9 := wI (by omega) (by omega)
  intro m
  induction m with
  | zero =>
    intro n N i hm hn
    obtain ⟨n, rfl⟩ : ∃ q, n = q + 1 := ⟨n - 1, by omega⟩
    obtain rfl : i = count p := by omega
    simp only [m_ticketlineref14_Pairs_l0, m_ticketlineref14_Pairs_l0_b, rd_G, w9, show ¬ ((count p : Nat) : Int) < G p 9 by omega, decide_false, Bool.false_eq_true, if_false]
    rfl
  | succ m ih =>
    intro n N i hm hn
    obtain ⟨n, rfl⟩ : ∃ q, n = q + 1 := ⟨n - 1, by omega⟩
    have hg := valid_good hp hv (j := i) (by omega)
    have hs := hg.sized
    obtain ⟨hT1, hT2⟩ := refText hp hs
    obtain ⟨k, hk⟩ := hg.key
    obtain ⟨v, hv'⟩ := hg.val
    rw [hk] at hT1
    rw [hv'] at hT2
    have hw : 0 ≤ sw p i ∧ sw p i < 18446744073709551616 := hp.2.G (20 + i)
    have e20 : G p (20 + (i : Int)) = sw p i := rfl
    have w20 : IntKind.i64.wrap (20 + (i : Int)) = 20 + (i : Int) := wI (by omega) (by omega)
    have w2 : IntKind.i64.wrap ((i : Int) + 1) = ((i + 1 : Nat) : Int) := by rw [wI (by omega) (by omega)]; omega
    have hmid : midS (sw p i) = atS (sw p i) + W (keyS (sw p i)) := rfl
    have a0 := hs.at0
    have m0 := hs.mid0
    have m1 := hs.mid1
    have e1 := hs.end1
    have ky := hs.key
    have Wk := W_le hs.key0
    have wm : IntKind.i64.wrap (atS (sw p i) + W (keyS (sw p i))) = midS (sw p i) := by rw [wI (by omega) (by omega)]; exact hmid.symm
    have hf : fits (List.length (pairsTo p i) + 1) 32 := by rw [pairsTo_length]; unfold fits; omega
    have hpo : pairOf p i = (k, (v, ())) := by simp [pairOf, hk, hv']
    have := ih n N (i + 1) (by omega) (by omega)
    rw [pairsTo_succ, hpo] at this
    simp only [m_ticketlineref14_Pairs_l0, m_ticketlineref14_Pairs_l0_b, rd_G, w9, w20, w2, e20, show (i : Int) < G p 9 by omega, decide_true, if_true, show (0 : Int) ≤ 20 + (i : Int) by omega, show 20 + (i : Int) < 128 by omega, ref_SlotOf hw.1 hw.2, Option.bind_some, hs.at1,
      ref14_Words hs.key0 (by omega), wm, ref_End' a0 hs.at1, show (0 : Int) ≤ midS (sw p i) by omega, show midS (sw p i) ≤ 128 by omega, a0, m0, hT1, hT2, show (0 : Int) ≤ endS (sw p i) by omega, e1, m1, List.length_cons, List.length_nil, Nat.zero_add, hf, this]

theorem ref_Pairs {p : List Int} (hp : PageOK p) (hv : validB p = true) : m_ticketlineref14_Pairs p = some (pairsS p) := by
  unfold m_ticketlineref14_Pairs m_ticketlineref14_Pairs_a
  obtain ⟨hc, hc9⟩ := count_le hp hv
  exact refPairs_l0 hp hv (count p) FUEL FUEL 0 (by omega) (by have := FUEL_big; omega)
def lowS (p : List Int) : ByteArray := (fenceS p 12).getD eB
def highS (p : List Int) : ByteArray := (fenceS p 16).getD eB
theorem ref_Fences {p : List Int} (hp : PageOK p) : m_ticketlineref14_Fences p = some (lowS p, highS p) := by
  unfold m_ticketlineref14_Fences lowS highS
  rw [ref_fence hp (by omega) (by omega), ref_fence hp (by omega) (by omega)]
  cases fenceS p 12 <;> cases fenceS p 16 <;> rfl

theorem slot_Valid {p : List Int} (hp : PageOK p) : m_slot_Valid p = some (validB p) := by
  unfold m_slot_Valid; rw [slot_list hp]; cases validB p <;> rfl
theorem slot_Len {p : List Int} (hp : PageOK p) : m_slot_Len p = some (if validB p = true then (count p : Int) else 0) := by
  unfold m_slot_Len; rw [slot_list hp]
  cases validB p
  · rfl
  · simp [pairsS, pairsTo_length]
theorem slot_Level {p : List Int} (hp : PageOK p) : m_slot_Level p = some (if validB p = true then G p 8 - 1 else -1) := by
  unfold m_slot_Level; rw [slot_Valid hp]
  cases h : validB p
  · rfl
  · have h1 := head_spec (valid_head h)
    simp (disch := omega) only [Option.bind_some, Bool.not_true, Bool.false_eq_true, if_false, rd_G, wI, if_true]
theorem slot_Next {p : List Int} (hp : PageOK p) : m_slot_Next p = some (if validB p = true then G p 10 else 0) := by
  unfold m_slot_Next; rw [slot_Valid hp]
  cases h : validB p
  · rfl
  · have h1 := head_spec (valid_head h)
    have := hp.2.G 10
    simp (disch := omega) only [Option.bind_some, Bool.not_true, Bool.false_eq_true, if_false, rd_G, wI, if_true]
theorem slot_Pairs {p : List Int} (hp : PageOK p) : m_slot_Pairs p = some (if validB p = true then (pairsS p, (0 : Int)) else ([], 12)) := by
  unfold m_slot_Pairs; rw [slot_list hp]; cases validB p <;> rfl
theorem slot_Load {p : List Int} (hp : PageOK p) : m_slot_Load p = some (if validB p = true then (sumC (pairsS p), (0 : Int)) else (0, 12)) := by
  unfold m_slot_Load m_slot_Load_a; rw [slot_list hp]
  cases h : validB p
  · rfl
  · obtain ⟨hc, _⟩ := count_le hp h
    have hs : SmallL (pairsS p) := pairsTo_small (by omega)
    have := load_l0 hs (pairsS p).length FUEL FUEL 0 0 (by omega) (by have := FUEL_big; have := hs.1; omega) (by omega) (by omega)
    simpa using this
theorem slot_Gap {p : List Int} (hp : PageOK p) : m_slot_Gap p = some (if validB p = true then (G p 11 - G p 9 - 20, (0 : Int)) else (0, 12)) := by
  unfold m_slot_Gap; rw [slot_Valid hp]
  cases h : validB p
  · rfl
  · have h1 := head_spec (valid_head h)
    have h9 := hp.2.G 9
    have h11 := hp.2.G 11
    have w1 : IntKind.u64.wrap (G p 11 - G p 9) = G p 11 - G p 9 := wU (by omega) (by omega)
    have w2 : IntKind.i64.wrap (G p 11 - G p 9) = G p 11 - G p 9 := wI (by omega) (by omega)
    have w3 : IntKind.i64.wrap (G p 11 - G p 9 - 20) = G p 11 - G p 9 - 20 := wI (by omega) (by omega)
    simp only [Option.bind_some, Bool.not_true, Bool.false_eq_true, if_false, rd_G, w1, w2, w3, if_true]
theorem slot_Fences {p : List Int} (hp : PageOK p) : m_slot_Fences p = some (if validB p = true then (lowS p, highS p, (0 : Int)) else (eB, eB, 12)) := by
  unfold m_slot_Fences; rw [slot_Valid hp]
  cases h : validB p
  · rfl
  · rw [slot_fence hp (by omega) (by omega), slot_fence hp (by omega) (by omega)]
    unfold lowS highS
    cases fenceS p 12 <;> cases fenceS p 16 <;> rfl

theorem slot_pair {p : List Int} (hp : PageOK p) (i : Int) : m_slot_pair p i = some (if validB p = true then (if i < 0 ∨ (count p : Int) ≤ i then ((eB, (eB, ())), (3 : Int)) else (pairOf p i, 0)) else ((eB, (eB, ())), 12)) := by
  unfold m_slot_pair; rw [slot_list hp]
  cases h : validB p
  · rfl
  · have hl : ((pairsS p).length : Int) = count p := by simp [pairsS, pairsTo_length]
    simp only [if_true, Option.bind_some, Bool.not_true, Bool.false_eq_true, if_false, hl]
    by_cases c1 : i < 0
    · simp [c1]
    · by_cases c2 : i ≥ (count p : Int)
      · simp [c1, c2]
      · have hlt : i.toNat < (pairsS p).length := by omega
        have hg : GP (pairsS p) i = pairOf p i := by
          have := GP_get hlt
          rw [show ((i.toNat : Nat) : Int) = i by omega] at this
          rw [this]
          simp only [pairsS, pairsTo, List.getElem_map, List.getElem_range]
          rw [show ((i.toNat : Nat) : Int) = i by omega]
        simp only [rd_GP, hg]
        simp [c1, c2, show (0 : Int) ≤ i by omega, show i < (count p : Int) by omega, show ¬ (count p : Int) ≤ i by omega]

theorem slot_Key {p : List Int} (hp : PageOK p) (i : Int) : m_slot_Key p i = some (if validB p = true then (if i < 0 ∨ (count p : Int) ≤ i then (eB, (3 : Int)) else ((pairOf p i).1, 0)) else (eB, 12)) := by
  unfold m_slot_Key; rw [slot_pair hp]; cases validB p <;> by_cases c : i < 0 ∨ (count p : Int) ≤ i <;> simp [c]
theorem slot_Value {p : List Int} (hp : PageOK p) (i : Int) : m_slot_Value p i = some (if validB p = true then (if i < 0 ∨ (count p : Int) ≤ i then (eB, (3 : Int)) else ((pairOf p i).2.1, 0)) else (eB, 12)) := by
  unfold m_slot_Value; rw [slot_pair hp]; cases validB p <;> by_cases c : i < 0 ∨ (count p : Int) ≤ i <;> simp [c]
theorem slot_Child {p : List Int} (hp : PageOK p) (i : Int) : m_slot_Child p i = some (if validB p = true then (if i < 0 ∨ (count p : Int) ≤ i then ((0 : Int), (3 : Int)) else if G p 8 = 1 then (0, 8) else (G p (midS (sw p i)), 0)) else (0, 12)) := by
  unfold m_slot_Child; rw [slot_pair hp]
  cases h : validB p
  · rfl
  · simp only [if_true, Option.bind_some]
    by_cases c : i < 0 ∨ (count p : Int) ≤ i
    · simp [c]
    · simp only [c, if_false, bne_self_eq_false, Bool.false_eq_true, rd_G]
      by_cases c1 : G p 8 = 1
      · simp [c1]
      · have e1 : (G p 8 == 1) = false := by simpa using c1
        obtain ⟨hc, hc9⟩ := count_le hp h
        have hg := valid_good hp h (j := i.toNat) (by omega)
        rw [show ((i.toNat : Nat) : Int) = i by omega] at hg
        have hw : 0 ≤ sw p i ∧ sw p i < 18446744073709551616 := hp.2.G (20 + i)
        have hE : m_slot_entryOf (sw p i) = some (atS (sw p i), midS (sw p i), endS (sw p i), keyS (sw p i), valS (sw p i), ()) := slot_entryOf hw.1 hw.2
        have e20 : G p (20 + i) = sw p i := rfl
        have w20 : IntKind.i64.wrap (20 + i) = 20 + i := wI (by omega) (by omega)
        have a0 := hg.sized.at0
        have m0 := hg.sized.mid0
        have m2 := hg.sized.mid2 c1
        have h1 := head_spec (valid_head h)
        have hch := hg.child (by omega)
        have wc : IntKind.i64.wrap (G p (midS (sw p i))) = G p (midS (sw p i)) := wI (by omega) (by omega)
        simp only [e1, Bool.false_eq_true, if_false, w20, e20, show (0 : Int) ≤ 20 + i by omega, show 20 + i < 128 by omega, if_true, hE, Option.bind_some, show (0 : Int) ≤ midS (sw p i) by omega, m2, wc, c1]
end Go.Ev.L
