/- Deadlines: the laws of this seat hold. -/
import Derived.Test.YtiknbfledplnlaaD1
set_option linter.unusedVariables false
set_option linter.unusedSimpArgs false
namespace Go.Ev.L
open Go Go.Ev Go.Ev.M

theorem u32_range {x : Int} (h : IntKind.min .u32 ≤ x ∧ x ≤ IntKind.max .u32) : 0 ≤ x ∧ x < 4294967296 := by
  have h1 : IntKind.min .u32 = 0 := rfl
  have h2 : IntKind.max .u32 = 4294967295 := rfl
  omega
theorem tickS_id {v : Int} (h : v ≤ 1099511627776) : tickS v = v := by unfold tickS; rw [if_neg (by omega)]
theorem fine_iff (t : Int) : (decide (0 ≤ t) && decide (t ≤ 1099511627776)) = true ↔ 0 ≤ t ∧ t ≤ 1099511627776 := by
  simp [Bool.and_eq_true, decide_eq_true_eq]

theorem deadlineChecks_true (l : Int × (Int × Unit)) {word : Int} (at' : Int) (hw : 0 ≤ word ∧ word < 18446744073709551616) : m_ticketlinelaw33_DeadlineChecks l word at' = some true := by
  unfold m_ticketlinelaw33_DeadlineChecks
  rw [law33_small]
  cases hs : (!validL l || decide (l.1 ≤ 10)) with
  | false => simp [known33]
  | true =>
    have h2 : validL l = true → l.1 ≤ 10 := fun h => by rw [h] at hs; simpa using hs
    simp only [Option.bind_some, Bool.not_true, Bool.false_eq_true, if_false]
    rw [desc_Format h2, dl_NewCheck]
    cases hv : validL l with
    | false => simp [known33]
    | true =>
      simp only [if_true, Option.bind_some, Bool.true_and]
      by_cases hf : 0 ≤ at' ∧ at' ≤ 1099511627776
      · have hs := descW_sz hv (h2 hv)
        have hb := hs.big
        have hs2 := hs.wr (i := 6) (v := word) (by omega) (by omega) hw.1 hw.2
        have hb2 := hs2.big
        have hg : G (wr (descW l) 6 word) 6 = word := G_wr_same (by omega) (by omega) _
        have hk := law33_looks (w := wr (descW l) 6 word) (at' := at') (by omega) hs2.u hf.1 hf.2
        rw [hg] at hk
        rw [(fine_iff at').2 hf]
        simp only [if_true, bne_self_eq_false, Bool.false_eq_true, if_false, ref33_Fine, (fine_iff at').2 hf, Option.bind_some, Bool.not_true, mem_Store (w := descW l) (i := 6) (by omega) (by omega),
          mem_Copy (w := wr (descW l) 6 word) (by omega) (by have := hs2.len; omega), ref33_Seen hw.1 hw.2, ref33_Result, hk, mem_Same (w := wr (descW l) 6 word) (by omega) hs2.len, known33]
      · have hn : (decide (0 ≤ at') && decide (at' ≤ 1099511627776)) = false := by rw [Bool.eq_false_iff]; exact fun e => hf ((fine_iff at').1 e)
        simp [hn, ref33_Fine, known33]

theorem sets_loop (l : Int × (Int × Unit)) (hv : validL l = true) (ts : List Int) (ht : ts.length ≤ 20) (hr : ∀ i : Int, -9223372036854775808 ≤ G ts i ∧ G ts i < 9223372036854775808) :
    ∀ (m n N : Nat) (i last : Int) (w : List Int), i + m = ts.length → 0 ≤ i → m < n → Sz w l.1 → 0 ≤ last → last ≤ 1099511627776 → G w 6 = last → m_ticketlinelaw33_DeadlineSets_l0 N n ts last i l.1 l.2.1 w = some true := by
  intro m
  induction m with
  | zero =>
    intro n N i last w hm hi hn hs h0 h1 hg
    obtain ⟨n, rfl⟩ : ∃ k, n = k + 1 := ⟨n - 1, by omega⟩
    simp [m_ticketlinelaw33_DeadlineSets_l0, m_ticketlinelaw33_DeadlineSets_l0_b, show ¬ i < ts.length by omega, known33]
  | succ m ih =>
    intro n N i last w hm hi hn hs h0 h1 hg
    obtain ⟨n, rfl⟩ : ∃ k, n = k + 1 := ⟨n - 1, by omega⟩
    have hlt : i < ts.length := by omega
    have hb := hs.big
    have hlen := hs.len
    have hal : ∀ t, m_deadline_allowed (l.1, (l.2.1, ())) t = some (decide (0 ≤ t) && decide (t ≤ 1099511627776)) := fun t => by
      have e : (l.1, (l.2.1, ())) = l := rfl
      rw [e, dl_allowed, hv]; rfl
    have h00 : (decide ((0 : Int) ≤ 0) && decide ((0 : Int) ≤ 1099511627776)) = true := by decide
    simp only [m_ticketlinelaw33_DeadlineSets_l0, m_ticketlinelaw33_DeadlineSets_l0_b, hlt, decide_true, if_true, mem_Copy (w := w) (by omega) (by omega), Option.bind_some, hi, rd_G, ref33_Fine, hal, h00]
    have hgr := hr i
    by_cases hf : 0 ≤ (G ts i) ∧ (G ts i) ≤ 1099511627776
    · have hs2 := hs.wr (i := 6) (v := (G ts i)) (by omega) (by omega) (by omega) (by omega)
      have hb2 := hs2.big
      have hg2 : G (wr w 6 (G ts i)) 6 = (G ts i) := G_wr_same (by omega) (by omega) _
      have e1 := (tick_eq (v := (G ts i)) (by omega) (by omega)).1
      simp only [(fine_iff (G ts i)).2 hf, if_true, wU (x := (G ts i)) (by omega) (by omega), mem_Store (w := w) (i := 6) (by omega) (by omega), Option.bind_some, bne_self_eq_false, Bool.false_eq_true, if_false, Bool.not_true,
        mem_Load (w := wr w 6 (G ts i)) (i := 6) (by omega) (by omega), hg2, e1, tickS_id hf.2, beq_self_eq_true, mem_Same (w := wr w 6 (G ts i)) (by omega) hs2.len]
      rw [wI (x := i + 1) (by omega) (by omega)]
      exact ih n N (i + 1) (G ts i) _ (by omega) (by omega) (by omega) hs2 hf.1 hf.2 hg2
    · have hn' : (decide (0 ≤ (G ts i)) && decide ((G ts i) ≤ 1099511627776)) = false := by rw [Bool.eq_false_iff]; exact fun e => hf ((fine_iff (G ts i)).1 e)
      have e1 := (tick_eq (v := last) (by omega) (by omega)).1
      simp only [hn', Bool.false_eq_true, if_false, Option.bind_some, Bool.not_false, Bool.not_true, if_true, mem_Load (w := w) (i := 6) (by omega) (by omega), hg, e1, tickS_id h1, beq_self_eq_true, mem_Same (w := w) (by omega) hs.len]
      rw [wI (x := i + 1) (by omega) (by omega)]
      exact ih n N (i + 1) last _ (by omega) (by omega) (by omega) hs h0 h1 hg
theorem G_range {l : List Int} {lo hi : Int} (h0 : lo ≤ 0) (h1 : 0 < hi) (h : ∀ x, x ∈ l → lo ≤ x ∧ x < hi) (i : Int) : lo ≤ G l i ∧ G l i < hi := by
  unfold G
  rw [List.getD_eq_getElem?_getD]
  cases e : l[i.toNat]? with
  | none => exact ⟨h0, h1⟩
  | some x => exact h x (List.mem_of_getElem? e)
theorem deadlineSets_true (l : Int × (Int × Unit)) {ts : List Int} (ht : ∀ x, x ∈ ts → -9223372036854775808 ≤ x ∧ x < 9223372036854775808) : m_ticketlinelaw33_DeadlineSets l ts = some true := by
  unfold m_ticketlinelaw33_DeadlineSets m_ticketlinelaw33_DeadlineSets_a
  rw [law33_small]
  cases hs : (!validL l || decide (l.1 ≤ 10)) with
  | false => simp [known33]
  | true =>
    have h2 : validL l = true → l.1 ≤ 10 := fun h => by rw [h] at hs; simpa using hs
    simp only [Option.bind_some, Bool.not_true, Bool.false_eq_true, if_false]
    by_cases hn : (ts.length : Int) > 20
    · simp [hn, known33]
    rw [if_neg (by simpa using hn), desc_Format h2]
    cases hv : validL l with
    | false =>
      simp only [Bool.false_eq_true, if_false, Option.bind_some, mem_New (n := 50) (by omega) (by omega)]
      simp [dl_allowed, hv, known33]
    | true =>
      have hs := descW_sz hv (h2 hv)
      simp only [if_true, Option.bind_some, bne_self_eq_false, Bool.false_eq_true, if_false]
      exact sets_loop l hv ts (by omega) (G_range (by omega) (by omega) ht) ts.length FUEL FUEL 0 0 _ (by omega) (by omega) (by have := FUEL_big; omega) hs (by omega) (by omega) (descW_tick hv (h2 hv))

theorem deadlineShort_true {n : Int} (h : 0 ≤ n ∧ n < 256) : m_ticketlinelaw33_DeadlineShort n = some true := by
  unfold m_ticketlinelaw33_DeadlineShort m_ticketlinelaw33_DeadlineShort_a
  by_cases h1 : n < 1
  · simp [h1, known33]
  by_cases h2 : n > 9
  · simp [h1, h2, known33]
  rw [if_neg (by simpa using h1), if_neg (by simpa using h2), wI (x := n) (by omega) (by omega), mem_New (by omega) (by omega)]
  have hv : validL (1, (1, ())) = true := by decide
  have hlen : (List.replicate n.toNat (0 : Int)).length = n.toNat := List.length_replicate
  have hal : ∀ t, m_deadline_allowed (1, (1, ())) t = some (decide (0 ≤ t) && decide (t ≤ 1099511627776)) := fun t => by rw [dl_allowed, hv]; rfl
  have hc : m_deadline_NewCheck (1, (1, ())) 3 = some (some (newP 3), (0 : Int)) := by rw [dl_NewCheck, hv]; rfl
  have k4 : (decide ((0 : Int) ≤ 4) && decide ((4 : Int) ≤ 1099511627776)) = true := by decide
  have k0 : (decide ((0 : Int) ≤ 0) && decide ((0 : Int) ≤ 1099511627776)) = true := by decide
  simp only [Option.bind_some, given33, hc, bne_self_eq_false, Bool.false_eq_true, if_false]
  by_cases h3 : n > 6
  · rw [if_pos (by simpa using h3)]
    have hu : U64 (wr (List.replicate n.toNat 0) 6 4) := U64_wr (U64_rep _) _ (by omega) (by omega)
    have hl2 : (wr (List.replicate n.toNat 0) 6 4).length = n.toNat := by rw [wr_length, hlen]
    have hg : G (wr (List.replicate n.toNat 0) 6 4) 6 = 4 := G_wr_same (by omega) (by rw [hlen]; omega) _
    have e1 := (tick_eq (v := 4) (by omega) (by omega)).1
    have hk := law33_looks (w := wr (List.replicate n.toNat 0) 6 4) (at' := 3) (by omega) hu (by omega) (by omega)
    rw [hg, tickS_id (v := 4) (by omega)] at hk
    have hres : resS 3 4 = 0 := by decide
    rw [hres] at hk
    simp only [hal, k4, k0, Option.bind_some, Bool.not_true, Bool.false_eq_true, if_false, mem_Store (w := List.replicate n.toNat 0) (i := 6) (by omega) (by rw [hlen]; omega), beq_self_eq_true, if_true,
      mem_Load (w := wr (List.replicate n.toNat 0) 6 4) (i := 6) (by omega) (by omega), hg, e1, tickS_id (v := 4) (by omega), hk, known33]
  · rw [if_neg (by simpa using h3)]
    have e0 := (tick_eq (v := 0) (by omega) (by omega)).1
    have hd : m_deadline_Check_Done (newP 3) = some (false, newP 3) := new_Done 3
    simp only [mem_Load_out (w := List.replicate n.toNat 0) (i := 6) (by rw [hlen]; omega) (by omega) (by rw [hlen]; omega), Option.bind_some, Bool.not_true, Bool.false_eq_true, if_false, m_ticketlinelaw33_DeadlineShort_l0, m_ticketlinelaw33_DeadlineShort_l0_b,
      given33, hal, k4, k0, mem_Store_out (w := List.replicate n.toNat 0) (i := 6) (by rw [hlen]; omega) (by omega) (by rw [hlen]; omega), e0, tickS_id (v := 0) (by omega), hd, known33]
    simp

theorem holds_loop (at' : Int) (a0 : 1 ≤ at') (a1 : at' ≤ 1099511627776) (gs : List Int) (hgl : gs.length ≤ 20) (hr : ∀ i : Int, 0 ≤ G gs i ∧ G gs i < 4294967296) :
    ∀ (m n N : Nat) (i tick : Int) (passed : Bool) (w : List Int), i + m = gs.length → 0 ≤ i → m < n → Sz w 1 → 0 ≤ tick → tick ≤ i * 1073741824 → (passed = true → tick > at') → m_ticketlinelaw33_DeadlineHolds_l0 N n at' gs tick passed i 1 1 w = some true := by
  intro m
  induction m with
  | zero =>
    intro n N i tick passed w hm hi hn hs h0 h1 hp
    obtain ⟨n, rfl⟩ : ∃ k, n = k + 1 := ⟨n - 1, by omega⟩
    simp [m_ticketlinelaw33_DeadlineHolds_l0, m_ticketlinelaw33_DeadlineHolds_l0_b, show ¬ i < gs.length by omega, known33]
  | succ m ih =>
    intro n N i tick passed w hm hi hn hs h0 h1 hp
    obtain ⟨n, rfl⟩ : ∃ k, n = k + 1 := ⟨n - 1, by omega⟩
    have hlt : i < gs.length := by omega
    have hb := hs.big
    have hlen := hs.len
    have hv : validL (1, (1, ())) = true := by decide
    have hal : ∀ t, 0 ≤ t → t ≤ 1099511627776 → m_deadline_allowed (1, (1, ())) t = some true := fun t x y => by rw [dl_allowed, hv, (fine_iff t).2 ⟨x, y⟩]; rfl
    have hc : m_deadline_NewCheck (1, (1, ())) at' = some (some (newP at'), (0 : Int)) := by rw [dl_NewCheck, hv, (fine_iff at').2 ⟨by omega, a1⟩]; rfl
    simp only [m_ticketlinelaw33_DeadlineHolds_l0, m_ticketlinelaw33_DeadlineHolds_l0_b, hlt, decide_true, if_true, hc, Option.bind_some, hi, rd_G, bne_self_eq_false, Bool.false_eq_true, if_false]
    have hgr := hr i
    have hm1 : Int.tmod (G gs i) 1073741824 = (G gs i) % 1073741824 := Int.tmod_eq_emod_of_nonneg hgr.1
    have e1 : IntKind.i64.wrap (tick + IntKind.i64.wrap (Int.tmod (G gs i) 1073741824)) = tick + (G gs i) % 1073741824 := by
      rw [hm1, wI (x := (G gs i) % 1073741824) (by omega) (by omega), wI (by omega) (by omega)]
    simp only [e1]
    have ht : 0 ≤ tick + (G gs i) % 1073741824 ∧ tick ≤ tick + (G gs i) % 1073741824 ∧ tick + (G gs i) % 1073741824 ≤ (i + 1) * 1073741824 := by omega
    have ht2 : (tick + G gs i % 1073741824) ≤ 1099511627776 := by omega
    have hs2 := hs.wr (i := 6) (v := (tick + G gs i % 1073741824)) (by omega) (by omega) (by omega) (by omega)
    have hb2 := hs2.big
    have hg2 : G (wr w 6 (tick + G gs i % 1073741824)) 6 = (tick + G gs i % 1073741824) := G_wr_same (by omega) (by omega) _
    have e2 := (tick_eq (v := (tick + G gs i % 1073741824)) (by omega) (by omega)).1
    have hT : m_deadline_Check_Tick (true, (true, (at', ((tick + G gs i % 1073741824), ())))) = some ((tick + G gs i % 1073741824), doneP at' (tick + G gs i % 1073741824)) := done_Tick at' (tick + G gs i % 1073741824)
    have hR : m_deadline_Check_Result (doneP at' (tick + G gs i % 1073741824)) = some (resS at' (tick + G gs i % 1073741824), doneP at' (tick + G gs i % 1073741824)) := done_Result (by omega) a1
    simp only [hal (tick + G gs i % 1073741824) ht.1 ht2, Option.bind_some, Bool.not_true, Bool.false_eq_true, if_false, wU (x := (tick + G gs i % 1073741824)) (by omega) (by omega), mem_Store (w := w) (i := 6) (by omega) (by omega), bne_self_eq_false,
      mem_Load (w := wr w 6 (tick + G gs i % 1073741824)) (i := 6) (by omega) (by omega), hg2, e2, tickS_id ht2, hT, hR]
    have next := fun p hp => ih n N (i + 1) (tick + G gs i % 1073741824) p (wr w 6 (tick + G gs i % 1073741824)) (by omega) (by omega) (by omega) hs2 ht.1 ht.2.2 hp
    rw [wI (x := i + 1) (by omega) (by omega)]
    by_cases hlate : (tick + G gs i % 1073741824) > at'
    · have hres : resS at' (tick + G gs i % 1073741824) = 0 := by unfold resS; rw [if_pos ⟨by omega, hlate⟩]
      simp only [hres, show ¬ (tick + G gs i % 1073741824) ≤ at' by omega, decide_false]
      cases passed with
      | true => simpa using next true (fun _ => hlate)
      | false => simpa using next true (fun _ => hlate)
    · have hres : resS at' (tick + G gs i % 1073741824) = 1 := by unfold resS; rw [if_neg (by omega)]
      simp only [hres, show (tick + G gs i % 1073741824) ≤ at' by omega, decide_true]
      cases passed with
      | true => exact absurd (hp rfl) (by omega)
      | false => simpa using next false (fun e => by cases e)
theorem deadlineHolds_true (at' : Int) {gs : List Int} (hg : ∀ x, x ∈ gs → 0 ≤ x ∧ x < 4294967296) : m_ticketlinelaw33_DeadlineHolds at' gs = some true := by
  unfold m_ticketlinelaw33_DeadlineHolds m_ticketlinelaw33_DeadlineHolds_a
  rw [given33]
  simp only [Option.bind_some]
  by_cases h1 : (gs.length : Int) > 20
  · simp [h1, known33]
  by_cases h2 : at' < 1
  · simp [h1, h2, known33]
  by_cases h3 : at' > 1099511627776
  · simp [h1, h2, h3, known33]
  have hv : validL (1, (1, ())) = true := by decide
  rw [if_neg (by simpa using h1), if_neg (by simpa using h2), if_neg (by simpa using h3), desc_Format (fun _ => by decide), hv]
  have hs := descW_sz hv (by decide)
  simp only [if_true, Option.bind_some, bne_self_eq_false, Bool.false_eq_true, if_false]
  exact holds_loop at' (by omega) (by omega) gs (by omega) (G_range (by omega) (by omega) hg) gs.length FUEL FUEL 0 0 false _ (by omega) (by omega) (by have := FUEL_big; omega) hs (by omega) (by omega) (fun e => by cases e)
end Go.Ev.L
