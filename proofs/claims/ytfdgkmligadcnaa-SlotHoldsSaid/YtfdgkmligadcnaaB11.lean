/- Law 14's theorem, its loops. -/
import Derived.Test.YtfdgkmligadcnaaB10
set_option linter.unusedVariables false
set_option linter.unusedSimpArgs false
set_option linter.unusedSectionVars false
namespace Go.Ev.L
open Go Go.Ev Go.Ev.M
set_option maxRecDepth 10000

def gapS (p : List Int) : Int := G p 11 - G p 9 - 20
def freeF (p : List Int) (i : Int) (k : Nat) : Nat → Bool
  | 0 => true
  | m + 1 => (decide (i < atS (sw p k)) || decide (endS (sw p k) ≤ i)) && freeF p i (k + 1) m
theorem freeF_spec {p : List Int} {i : Int} : ∀ (m k : Nat), freeF p i k m = true → ∀ j : Nat, k ≤ j → j < k + m → ¬ (atS (sw p j) ≤ i ∧ i < endS (sw p j)) := by
  intro m
  induction m with
  | zero => intro k _ j h1 h2; omega
  | succ m ih =>
    intro k h j h1 h2
    simp only [freeF, Bool.and_eq_true, Bool.or_eq_true, decide_eq_true_eq] at h
    by_cases e : j = k
    · subst e; omega
    · exact ih (k + 1) h.2 j (by omega) (by omega)

theorem u64_wrap (x : Int) : 0 ≤ IntKind.u64.wrap x ∧ IntKind.u64.wrap x < 18446744073709551616 := by rw [wUmod]; exact u64_mod x

section
variable {p : List Int} (hp : PageOK p) (hv : validB p = true)
include hp hv

theorem holds_l4 (s3 : Int → Int → Int → ByteArray → ByteArray → Int → (List Int) → (List Pr) → (List Int) → Option Bool) (by' load gap : Int) (low high : ByteArray) (i : Nat) (hi : i < 128) (q : List Int) : ∀ (m n N k : Nat) (f : Bool), k + m = count p → m < n →
    m_ticketlinelaw14_SlotHolds_l4 N s3 n by' load gap low high i f k p (pairsS p) q = if (f && freeF p i k m) = true then s3 by' load gap low high ((i + 1 : Nat) : Int) p (pairsS p) (q.set i (IntKind.u64.wrap (G q i + by'))) else s3 by' load gap low high ((i + 1 : Nat) : Int) p (pairsS p) q := by
  obtain ⟨hc, hc9⟩ := count_le hp hv
  have hl : ((pairsS p).length : Int) = count p := by simp [pairsS, pairsTo_length]
  have w1 : IntKind.i64.wrap ((i : Int) + 1) = ((i + 1 : Nat) : Int) := by rw [wI (by omega) (by omega)]; omega
  intro m
  induction m with
  | zero =>
    intro n N k f hk hn
    obtain ⟨n, rfl⟩ : ∃ x, n = x + 1 := ⟨n - 1, by omega⟩
    obtain rfl : k = count p := by omega
    simp only [m_ticketlinelaw14_SlotHolds_l4, m_ticketlinelaw14_SlotHolds_l4_b, hl, Int.lt_irrefl, decide_false, Bool.false_eq_true, if_false, freeF, Bool.and_true, Int.natCast_nonneg, show (i : Int) < 128 by omega, if_true, w1, Int.toNat_natCast, rd_G]
  | succ m ih =>
    intro n N k f hk hn
    obtain ⟨n, rfl⟩ : ∃ x, n = x + 1 := ⟨n - 1, by omega⟩
    have hs := (valid_good hp hv (j := k) (by omega)).sized
    have hw : 0 ≤ sw p k ∧ sw p k < 18446744073709551616 := hp.2.G (20 + k)
    have e20 : G p (20 + (k : Int)) = sw p k := rfl
    have w20 : IntKind.i64.wrap (20 + (k : Int)) = 20 + (k : Int) := wI (by omega) (by omega)
    have w2 : IntKind.i64.wrap ((k : Int) + 1) = ((k + 1 : Nat) : Int) := by rw [wI (by omega) (by omega)]; omega
    simp only [m_ticketlinelaw14_SlotHolds_l4, m_ticketlinelaw14_SlotHolds_l4_b, hl, show (k : Int) < (count p : Int) by omega, decide_true, if_true, w20, w2, rd_G, e20, show (0 : Int) ≤ 20 + (k : Int) by omega, show 20 + (k : Int) < 128 by omega, ref_SlotOf hw.1 hw.2, Option.bind_some, hs.at1, ref_End' hs.at0 hs.at1, freeF]
    cases f with
    | false =>
      simp only [Bool.false_eq_true, if_false, Bool.false_and]
      have := ih n N (k + 1) false (by omega) (by omega)
      simpa using this
    | true =>
      simp only [if_true, Bool.true_and]
      by_cases c : (i : Int) < atS (sw p k)
      · have := ih n N (k + 1) true (by omega) (by omega)
        simp only [c, decide_true, if_true, Bool.true_or, Bool.true_and]
        simpa using this
      · have := ih n N (k + 1) (decide ((i : Int) ≥ endS (sw p k))) (by omega) (by omega)
        simp only [c, decide_false, Bool.false_eq_true, if_false, Bool.false_or]
        exact this

theorem holds_exit {q : List Int} (hq : PageOK q) (h : Agree p q) (by' : Int) (n N : Nat) (i : Int) (hi : 128 ≤ i) :
    m_ticketlinelaw14_SlotHolds_l3 N (n + 1) by' (sumC (pairsS p)) (gapS p) (lowS p) (highS p) i p (pairsS p) q = some true := by
  obtain ⟨hc, hc9⟩ := count_le hp hv
  have hqv := agree_valid hp hq hv h
  have hqp := agree_pairs hp hq hv h
  have hS : SmallL (pairsS p) := pairsTo_small (by omega)
  have a8 := h.head 8 (by omega) (by omega)
  have a9 := h.head 9 (by omega) (by omega)
  have a10 := h.head 10 (by omega) (by omega)
  have a11 := h.head 11 (by omega) (by omega)
  have f1 := agree_fence hp hq h (a := 12) (by omega) (by omega)
  have f2 := agree_fence hp hq h (a := 16) (by omega) (by omega)
  have e3 : m_ticketlinelaw14_weighs q (sumC (pairsS p)) (gapS p) 0 = some true := by
    unfold m_ticketlinelaw14_weighs; rw [slot_Load hq, slot_Gap hq, hqv, hqp, a9, a11]; simp [gapS]
  have e4 : m_ticketlinelaw14_fenced q (lowS p) (highS p) 0 = some true := by
    unfold m_ticketlinelaw14_fenced; rw [slot_Fences hq, hqv]; simp [lowS, highS, f1, f2, strEq_refl]
  simp only [m_ticketlinelaw14_SlotHolds_l3, m_ticketlinelaw14_SlotHolds_l3_b, show ¬ i < 128 by omega, decide_false, Bool.false_eq_true, if_false, slot_Pairs hq, hqv, hqp, if_true, Option.bind_some, same_refl _ hS.1, beq_self_eq_true, slot_Valid hq, slot_Level hq, slot_Level hp, hv, a8, slot_Next hq, slot_Next hp, a10, e3, e4, known14]

theorem holds_l3 (by' : Int) : ∀ (m n N i : Nat) (q : List Int), 1000 < N → i + m = 128 → m < n → PageOK q → Agree p q → 20 + count p ≤ i →
    m_ticketlinelaw14_SlotHolds_l3 N n by' (sumC (pairsS p)) (gapS p) (lowS p) (highS p) i p (pairsS p) q = some true := by
  obtain ⟨hc, hc9⟩ := count_le hp hv
  intro m
  induction m with
  | zero =>
    intro n N i q hN hm hn hq h hi
    obtain ⟨n, rfl⟩ : ∃ x, n = x + 1 := ⟨n - 1, by omega⟩
    exact holds_exit hp hv hq h by' n N i (by omega)
  | succ m ih =>
    intro n N i q hN hm hn hq h hi
    obtain ⟨n, rfl⟩ : ∃ x, n = x + 1 := ⟨n - 1, by omega⟩
    have := holds_l4 hp hv (m_ticketlinelaw14_SlotHolds_l3 N n) by' (sumC (pairsS p)) (gapS p) (lowS p) (highS p) i (by omega) q (count p) N N 0 true (by omega) (by omega)
    simp only [m_ticketlinelaw14_SlotHolds_l3, m_ticketlinelaw14_SlotHolds_l3_b, show (i : Int) < 128 by omega, decide_true, if_true]
    refine Eq.trans this ?_
    have hu := u64_wrap (G q i + by')
    split
    · rename_i hf
      simp only [Bool.true_and] at hf
      exact ih n N (i + 1) _ hN (by omega) (by omega) (hq.set i hu.1 hu.2) (h.set hp hv hq (by omega) (.inr hi) (fun k hk => freeF_spec _ _ hf k (by omega) (by omega)) _) (by omega)
    · exact ih n N (i + 1) q hN (by omega) (by omega) hq h (by omega)

theorem holds_l2 (by' : Int) : ∀ (m n N i : Nat) (q : List Int), 1000 < N → (i : Int) + m = G p 11 → m < n → PageOK q → Agree p q → 20 + count p ≤ i →
    m_ticketlinelaw14_SlotHolds_l2 N n by' (sumC (pairsS p)) (gapS p) (lowS p) (highS p) i p (pairsS p) q = some true := by
  obtain ⟨hc, hc9⟩ := count_le hp hv
  have h1 := head_spec (valid_head hv)
  have h11 := hp.2.G 11
  have w11 : IntKind.i64.wrap (G p 11) = G p 11 := wI (by omega) (by omega)
  have wmn : IntKind.i64.wrap (mn 128 (G p 11)) = G p 11 := by
    unfold mn
    by_cases c : G p 11 < 128
    · rw [if_pos c]; exact w11
    · rw [if_neg c, wI (by omega) (by omega)]; omega
  intro m
  induction m with
  | zero =>
    intro n N i q hN hm hn hq h hi
    obtain ⟨n, rfl⟩ : ∃ x, n = x + 1 := ⟨n - 1, by omega⟩
    have := holds_l3 hp hv by' (128 - (G p 11).toNat) N N (G p 11).toNat q hN (by omega) (by omega) hq h (by omega)
    rw [show (((G p 11).toNat : Nat) : Int) = G p 11 by omega] at this
    simp only [m_ticketlinelaw14_SlotHolds_l2, m_ticketlinelaw14_SlotHolds_l2_b, rd_G, w11, wmn, show ¬ (i : Int) < G p 11 by omega, decide_false, Bool.false_eq_true, if_false, this]
  | succ m ih =>
    intro n N i q hN hm hn hq h hi
    obtain ⟨n, rfl⟩ : ∃ x, n = x + 1 := ⟨n - 1, by omega⟩
    have w1 : IntKind.i64.wrap ((i : Int) + 1) = ((i + 1 : Nat) : Int) := by rw [wI (by omega) (by omega)]; omega
    have hu := u64_wrap (G q i + by')
    simp only [m_ticketlinelaw14_SlotHolds_l2, m_ticketlinelaw14_SlotHolds_l2_b, rd_G, w11, wmn, w1, show (i : Int) < G p 11 by omega, show (i : Int) < 128 by omega, decide_true, if_true, Int.natCast_nonneg, Int.toNat_natCast]
    exact ih n N (i + 1) _ hN (by omega) (by omega) (hq.set i hu.1 hu.2) (h.set hp hv hq (by omega) (.inr hi) (fun k hk => by
      have := (valid_good hp hv hk).sized.low; omega) _) (by omega)

theorem holds_l1 (by' : Int) : ∀ (m n N i : Nat) (q : List Int), 1000 < N → i + m = 8 → m < n → PageOK q → Agree p q →
    m_ticketlinelaw14_SlotHolds_l1 N n by' (sumC (pairsS p)) (gapS p) (lowS p) (highS p) i p (pairsS p) q = some true := by
  obtain ⟨hc, hc9⟩ := count_le hp hv
  have h1 := head_spec (valid_head hv)
  have h9 := hp.2.G 9
  have w9 : IntKind.i64.wrap (20 + IntKind.i64.wrap (G p 9)) = ((20 + count p : Nat) : Int) := by rw [wI (x := G p 9) (by omega) (by omega), wI (by omega) (by omega)]; omega
  intro m
  induction m with
  | zero =>
    intro n N i q hN hm hn hq h
    obtain ⟨n, rfl⟩ : ∃ x, n = x + 1 := ⟨n - 1, by omega⟩
    simp only [m_ticketlinelaw14_SlotHolds_l1, m_ticketlinelaw14_SlotHolds_l1_b, rd_G, w9, show ¬ (i : Int) < 8 by omega, decide_false, Bool.false_eq_true, if_false]
    exact holds_l2 hp hv by' (G p 11 - 20 - count p).toNat N N (20 + count p) q hN (by omega) (by omega) hq h (by omega)
  | succ m ih =>
    intro n N i q hN hm hn hq h
    obtain ⟨n, rfl⟩ : ∃ x, n = x + 1 := ⟨n - 1, by omega⟩
    have w1 : IntKind.i64.wrap ((i : Int) + 1) = ((i + 1 : Nat) : Int) := by rw [wI (by omega) (by omega)]; omega
    have hu := u64_wrap (G q i + by')
    simp only [m_ticketlinelaw14_SlotHolds_l1, m_ticketlinelaw14_SlotHolds_l1_b, rd_G, w1, show (i : Int) < 8 by omega, show (i : Int) < 128 by omega, decide_true, if_true, Int.natCast_nonneg, Int.toNat_natCast]
    exact ih n N (i + 1) _ hN (by omega) (by omega) (hq.set i hu.1 hu.2) (h.set hp hv hq (by omega) (.inl (by omega)) (fun k hk => by
      have := (valid_good hp hv hk).sized.low; omega) _)

theorem holds_l0 (by' : Int) : ∀ (m n N i : Nat) (acc : Int), 1000 < N → i + m = (pairsS p).length → m < n → 0 ≤ acc → acc ≤ 1000 * i → acc + sumC ((pairsS p).drop i) = sumC (pairsS p) →
    m_ticketlinelaw14_SlotHolds_l0 N n by' 0 (sumC (pairsS p)) 0 (gapS p) 0 (lowS p) (highS p) 0 acc i p (pairsS p) = some true := by
  obtain ⟨hc, hc9⟩ := count_le hp hv
  have h1 := head_spec (valid_head hv)
  have h9 := hp.2.G 9
  have h11 := hp.2.G 11
  have hl : ((pairsS p).length : Int) = count p := by simp [pairsS, pairsTo_length]
  have hS : SmallL (pairsS p) := pairsTo_small (by omega)
  have hlg := load_gap hp hv
  intro m
  induction m with
  | zero =>
    intro n N i acc hN hm hn h0 h2 h3
    obtain ⟨n, rfl⟩ : ∃ x, n = x + 1 := ⟨n - 1, by omega⟩
    rw [List.drop_eq_nil_of_le (by omega)] at h3
    have h3 : acc = sumC (pairsS p) := by simpa [sumC] using h3
    subst h3
    have wl : IntKind.i64.wrap (sumC (pairsS p) + gapS p) = sumC (pairsS p) + gapS p := wI (by unfold gapS; omega) (by unfold gapS; omega)
    have hle : ¬ sumC (pairsS p) + gapS p > 108 := by unfold gapS; omega
    have e1 := holds_l1 hp hv by' 8 N N 0 p hN (by omega) (by omega) hp (Agree.refl p)
    simp only [m_ticketlinelaw14_SlotHolds_l0, m_ticketlinelaw14_SlotHolds_l0_b, show ¬ (i : Int) < (count p : Int) by omega, decide_false, Bool.false_eq_true, if_false, bne_self_eq_false, wl, hle, slot_Len hp, hv, if_true, Option.bind_some, hl]
    exact e1
  | succ m ih =>
    intro n N i acc hN hm hn h0 h2 h3
    obtain ⟨n, rfl⟩ : ∃ x, n = x + 1 := ⟨n - 1, by omega⟩
    have hi : i < (pairsS p).length := by omega
    have hx := hS.2 (pairsS p)[i] (List.getElem_mem hi)
    have hcr := costS_range hx
    have hlen := hS.1
    have hd : (pairsS p).drop i = (pairsS p)[i] :: (pairsS p).drop (i + 1) := List.drop_eq_getElem_cons hi
    rw [hd] at h3
    have := ih n N (i + 1) (acc + costS (pairsS p)[i]) hN (by omega) (by omega) (by omega) (by omega) (by simp only [sumC] at h3; omega)
    have w1 : IntKind.i64.wrap (acc + costS (pairsS p)[i]) = acc + costS (pairsS p)[i] := wI (by omega) (by omega)
    have w2 : IntKind.i64.wrap ((i : Int) + 1) = ((i + 1 : Nat) : Int) := by rw [wI (by omega) (by omega)]; omega
    have hcost : m_slot_Cost (pairsS p)[i].1 (pairsS p)[i].2.1 = some (costS (pairsS p)[i]) := slot_Cost (by omega) (by omega)
    simp only [m_ticketlinelaw14_SlotHolds_l0, m_ticketlinelaw14_SlotHolds_l0_b, rd_GP, GP_get hi, show (i : Int) < ((pairsS p).length : Int) by omega, decide_true, if_true, Int.natCast_nonneg, hcost, Option.bind_some, w1, w2, this]
end

theorem slotHolds_true {x : Pln} (h : PlnOK x) (by' : Int) : m_ticketlinelaw14_SlotHolds x by' = some true := by
  obtain ⟨p, b, h1, h2, h3⟩ := plan_page h
  unfold m_ticketlinelaw14_SlotHolds m_ticketlinelaw14_SlotHolds_a
  rw [h1]
  cases b with
  | false => simp [known14]
  | true =>
    simp only [Option.bind_some, Bool.not_true, Bool.false_eq_true, if_false, slot_Valid h2]
    cases hv : validB p with
    | false => simp [known14]
    | true =>
      have hc := count_le h2 hv
      have hl : (pairsS p).length = count p := by simp [pairsS, pairsTo_length]
      have := holds_l0 h2 hv by' (pairsS p).length FUEL FUEL 0 0 (by have := FUEL_big; omega) (by omega) (by have := FUEL_big; omega) (by omega) (by omega) (by simp)
      simp only [Bool.not_true, Bool.false_eq_true, if_false, slot_Pairs h2, slot_Load h2, slot_Gap h2, slot_Fences h2, hv, if_true, Option.bind_some]
      exact this
end Go.Ev.L
