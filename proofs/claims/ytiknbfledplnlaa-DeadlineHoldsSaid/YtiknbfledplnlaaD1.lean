/- Deadlines: the memory of a layout, a look at the tick, and what the laws of this seat compute. -/
import Derived.Test.YtiknbfledplnlaaA2
import Derived.Test.YtiknbfledplnlaaM33
set_option linter.unusedVariables false
set_option linter.unusedSimpArgs false
namespace Go.Ev.L
open Go Go.Ev Go.Ev.M

def validL (l : Int × (Int × Unit)) : Bool := decide (1 ≤ l.1) && decide (l.1 ≤ 511) && decide (1 ≤ l.2.1) && decide (l.2.1 ≤ 17)
theorem desc_valid (l : Int × (Int × Unit)) : m_descend_valid l = some (validL l) := by
  unfold m_descend_valid validL
  by_cases h1 : 1 ≤ l.1
  · by_cases h2 : l.1 ≤ 511
    · by_cases h3 : 1 ≤ l.2.1
      · simp [h1, h2, h3, show l.1 ≥ 1 from h1, show l.2.1 ≥ 1 from h3]
      · simp [h1, h2, h3, show l.1 ≥ 1 from h1]
    · simp [h1, h2, show l.1 ≥ 1 from h1]
  · simp [h1]
theorem validL_iff {l : Int × (Int × Unit)} : validL l = true ↔ 1 ≤ l.1 ∧ l.1 ≤ 511 ∧ 1 ≤ l.2.1 ∧ l.2.1 ≤ 17 := by
  unfold validL; simp [Bool.and_eq_true, decide_eq_true_eq]; constructor <;> intro h <;> omega
theorem desc_Words (l : Int × (Int × Unit)) : m_descend_Words l = some (if validL l = true then (16 + 128 * l.1 + 6 * l.2.1, (0 : Int)) else ((0 : Int), (2 : Int))) := by
  unfold m_descend_Words m_descend_nodes
  rw [desc_valid]
  cases h : validL l with
  | false => simp
  | true =>
    have h := validL_iff.1 h
    simp only [Option.bind_some, Bool.not_true, Bool.false_eq_true, if_false, if_true]
    rw [wI (x := 128 * l.1) (by omega) (by omega), wI (x := 16 + 128 * l.1) (by omega) (by omega), wI (x := l.2.1 * 2) (by omega) (by omega), wI (x := l.2.1 * 2 * 3) (by omega) (by omega), wI (by omega) (by omega)]
    congr 2; omega
theorem law33_small (l : Int × (Int × Unit)) : m_ticketlinelaw33_small l = some (!validL l || decide (l.1 ≤ 10)) := by
  unfold m_ticketlinelaw33_small
  rw [desc_Words]
  cases h : validL l <;> simp
/-- the memory of an empty tree -/
def baseW (l : Int × (Int × Unit)) : List Int := fmtW (List.replicate (16 + 128 * l.1 + 6 * l.2.1).toNat 0) l.1
def descW (l : Int × (Int × Unit)) : List Int := wr (allocW (baseW l) (emptyS 0 eB eB)) 3 1
theorem validE : validB (emptyS 0 eB eB) = true := by
  have h := slot_Valid (p := emptyS 0 eB eB) (empty_page (by omega) (by omega) (by decide) (by decide))
  have e : m_slot_Valid (emptyS 0 eB eB) = some true := by decide +kernel
  rw [e] at h
  exact (Option.some.inj h).symm
theorem make0 : m_slot_Make 0 eB eB = some (emptyS 0 eB eB, (0 : Int)) := by
  rw [slot_Make, if_neg (by omega), if_neg (by decide), if_neg (by decide)]
theorem baseW_sz {l : Int × (Int × Unit)} (h : validL l = true) (h2 : l.1 ≤ 10) : Sz (baseW l) l.1 ∧ (baseW l).length = (16 + 128 * l.1 + 6 * l.2.1).toNat := by
  have h := validL_iff.1 h
  refine ⟨fmtW_sz (by omega) (by omega) ?_ ?_ (U64_rep _), ?_⟩
  · rw [List.length_replicate]; omega
  · rw [List.length_replicate]; omega
  · unfold baseW; rw [fmtW_length, List.length_replicate]
theorem G_base {l : Int × (Int × Unit)} (h : validL l = true) (h2 : l.1 ≤ 10) {j : Int} (hj : 0 ≤ j) : G (baseW l) j =
    if 1 ≤ (j - 26) / 128 + 1 ∧ (j - 26) / 128 + 1 < l.1 ∧ (j - 26) % 128 = 0 then (j - 26) / 128 + 2 else if j = 4 then 1 else if j = 1 then 1 else if j = 0 then l.1 else 0 := by
  have h := validL_iff.1 h
  unfold baseW
  rw [G_fmtW (by omega) (by rw [List.length_replicate]; omega) hj]
  have e : G (List.replicate (16 + 128 * l.1 + 6 * l.2.1).toNat 0) j = 0 := by
    unfold G; rw [List.getD_eq_getElem?_getD, List.getElem?_replicate]; split <;> rfl
  rw [e]
  simp
theorem emptyPage : PageOK (emptyS 0 eB eB) := empty_page (by omega) (by omega) (by decide) (by decide)
theorem desc_Format {l : Int × (Int × Unit)} (h2 : validL l = true → l.1 ≤ 10) : m_descend_Format l = some (if validL l = true then (some (descW l, ()), (0 : Int)) else (none, (2 : Int))) := by
  unfold m_descend_Format
  rw [desc_Words]
  cases hv : validL l with
  | false => simp
  | true =>
    obtain ⟨hs, hl⟩ := baseW_sz hv (h2 hv)
    have hg := fun j hj => G_base hv (h2 hv) (j := j) hj
    have hb := validL_iff.1 hv
    have h2 := h2 hv
    have g1 : G (baseW l) 1 = 1 := by rw [hg 1 (by omega), if_neg (by omega)]; simp
    simp only [if_true, Option.bind_some, bne_self_eq_false, Bool.false_eq_true, if_false]
    rw [mem_New (by omega) (by omega)]
    simp only [Option.bind_some, bne_self_eq_false, Bool.false_eq_true, if_false]
    rw [arena_Format (by rw [List.length_replicate]; omega) (by rw [List.length_replicate]; omega), if_neg (by rw [List.length_replicate]; omega)]
    simp only [Option.bind_some, bne_self_eq_false, Bool.false_eq_true, if_false, show (⟨#[]⟩ : ByteArray) = eB from rfl, make0]
    have ha := arena_Alloc hs emptyPage (by rw [g1]; omega)
    rw [validE, g1] at ha
    simp only [Bool.true_eq_false, if_false, show ¬ (1 : Int) = 0 by omega] at ha
    have ha : m_arena_Arena_Alloc (((fmtW (List.replicate (16 + 128 * l.1 + 6 * l.2.1).toNat 0) l.1, ()), ()), ()) (emptyS 0 eB eB) = some (1, 0, AR (allocW (baseW l) (emptyS 0 eB eB))) := ha
    rw [ha]
    simp only [Option.bind_some, bne_self_eq_false, Bool.false_eq_true, if_false]
    have hs2 := hs.alloc emptyPage.2 (by rw [g1]; omega)
    have hr := arena_SetRoot hs2 1
    have hk : busyE (allocW (baseW l) (emptyS 0 eB eB)) l.1 1 false = 0 := by
      unfold busyE
      have e : K (allocW (baseW l) (emptyS 0 eB eB)) 1 = G (emptyS 0 eB eB) 8 := by
        unfold K allocW
        rw [g1, G_putW (by unfold pl; omega) (by rw [wr_length]; have := hs.big; unfold pl; omega), if_pos (by unfold pl; omega)]
        rfl
      have e2 : usedK (G (emptyS 0 eB eB) 8) = true := by decide +kernel
      rw [if_neg (by omega), e, e2]
      simp
    rw [if_neg (by simp [hk])] at hr
    rw [hr]
    simp only [Option.bind_some, bne_self_eq_false, Bool.false_eq_true, if_false]
    have hs3 := hs2.wr (i := 3) (v := 1) (by omega) (by have := hs2.big; omega) (by omega) (by omega)
    rw [arena_Mem (by have := hs3.big; omega) (by have := hs3.len; omega)]
    rfl
theorem descW_sz {l : Int × (Int × Unit)} (h : validL l = true) (h2 : l.1 ≤ 10) : Sz (descW l) l.1 := by
  obtain ⟨hs, hl⟩ := baseW_sz h h2
  have g1 : G (baseW l) 1 = 1 := by rw [G_base h h2 (by omega), if_neg (by omega)]; simp
  have hs2 := hs.alloc emptyPage.2 (by rw [g1]; omega)
  exact hs2.wr (i := 3) (v := 1) (by omega) (by have := hs2.big; omega) (by omega) (by omega)
theorem descW_tick {l : Int × (Int × Unit)} (h : validL l = true) (h2 : l.1 ≤ 10) : G (descW l) 6 = 0 := by
  obtain ⟨hs, hl⟩ := baseW_sz h h2
  have g1 : G (baseW l) 1 = 1 := by rw [G_base h h2 (by omega), if_neg (by omega)]; simp
  have hb := hs.big
  have hs2 := hs.alloc emptyPage.2 (by rw [g1]; omega)
  have hb2 := hs2.big
  unfold descW
  rw [G_wr_ne (by omega) (by omega) _ (by omega) (by omega)]
  unfold allocW
  rw [g1, G_putW (by omega) (by rw [wr_length]; omega), if_neg (by unfold pl; omega), G_wr_ne (by omega) (by omega) _ (by omega) (by omega), G_base h h2 (by omega), if_neg (by omega)]
  simp

theorem dl_allowed (l : Int × (Int × Unit)) (t : Int) : m_deadline_allowed l t = some (validL l && (decide (0 ≤ t) && decide (t ≤ 1099511627776))) := by
  unfold m_deadline_allowed
  rw [desc_Words]
  cases h : validL l with
  | false => simp
  | true =>
    by_cases e : t ≥ 0
    · simp [e, show 0 ≤ t from e]
    · simp [e, show ¬ 0 ≤ t from e]
theorem dl_NewCheck (l : Int × (Int × Unit)) (t : Int) : m_deadline_NewCheck l t = some (if (validL l && (decide (0 ≤ t) && decide (t ≤ 1099511627776))) = true then (some (true, (false, (t, ((0 : Int), ())))), (0 : Int)) else (none, (2 : Int))) := by
  unfold m_deadline_NewCheck
  rw [dl_allowed]
  simp only [Option.bind_some]
  generalize (validL l && (decide (0 ≤ t) && decide (t ≤ 1099511627776))) = b
  cases b <;> simp
/-- the tick that a word stands for, and the answer of a look -/
def tickS (v : Int) : Int := if 1099511627776 < v then 1099511627776 else v
def resS (at' tick : Int) : Int := if at' ≠ 0 ∧ tick > at' then 0 else 1
theorem tick_eq {v : Int} (h0 : 0 ≤ v) (h1 : v < 18446744073709551616) : IntKind.i64.wrap (mn v 1099511627776) = tickS v ∧ 0 ≤ tickS v ∧ tickS v ≤ 1099511627776 := by
  unfold mn tickS
  by_cases e : 1099511627776 < v
  · rw [if_pos e, wI (by omega) (by omega)]; exact ⟨rfl, by omega, by omega⟩
  · rw [if_neg e, wI (by omega) (by omega)]; exact ⟨rfl, by omega, by omega⟩
theorem mem_Do1 {w : List Int} {i : Int} (h0 : 0 ≤ i) (h1 : i < w.length) : m_mem_Mem_Do (w, ()) ((1 : Int), (i, ((0 : Int), ((0 : Int), ())))) = some (((1 : Int), (i, (G w i, (G w i, ())))), (0 : Int), (w, ())) := by
  have hw : ¬ w = [] := by intro e; subst e; simp at *; try omega
  unfold m_mem_Mem_Do
  simp [hw, h0, h1, show ¬ i < 0 by omega, show ¬ i ≥ (w.length : Int) by omega, rd_G]
abbrev newP (at' : Int) : Bool × (Bool × (Int × (Int × Unit))) := (true, (false, (at', ((0 : Int), ()))))
abbrev doneP (at' tick : Int) : Bool × (Bool × (Int × (Int × Unit))) := (true, (true, (at', (tick, ()))))
theorem done_Result {at' tick : Int} (h0 : 0 ≤ at') (h1 : at' ≤ 1099511627776) : m_deadline_Check_Result (doneP at' tick) = some (resS at' tick, doneP at' tick) := by
  unfold m_deadline_Check_Result m_deadline_Check_over m_clock_Passed resS
  by_cases e : at' = 0
  · simp [e]
  · by_cases e2 : tick > at'
    · simp [e, e2, show at' > 0 by omega, show at' < 4611686018427387904 by omega]
    · simp [e, e2, show at' > 0 by omega, show at' < 4611686018427387904 by omega, show tick ≤ at' by omega]
theorem done_Tick (at' tick : Int) : m_deadline_Check_Tick (doneP at' tick) = some (tick, doneP at' tick) := by
  simp [m_deadline_Check_Tick, m_deadline_Check_over]
theorem done_Done (at' tick : Int) : m_deadline_Check_Done (doneP at' tick) = some (true, doneP at' tick) := by
  simp [m_deadline_Check_Done]
theorem new_Result (at' : Int) : m_deadline_Check_Result (newP at') = some ((0 : Int), newP at') := by
  simp [m_deadline_Check_Result, m_deadline_Check_over]
theorem new_Tick (at' : Int) : m_deadline_Check_Tick (newP at') = some ((0 : Int), newP at') := by
  simp [m_deadline_Check_Tick, m_deadline_Check_over]
theorem new_Done (at' : Int) : m_deadline_Check_Done (newP at') = some (false, newP at') := by
  simp [m_deadline_Check_Done]
theorem law33_looks {w : List Int} {at' : Int} (hl : 6 < w.length) (hu : U64 w) (h0 : 0 ≤ at') (h1 : at' ≤ 1099511627776) :
    m_ticketlinelaw33_looks (w, ()) (newP at') (resS at' (tickS (G w 6))) (tickS (G w 6)) = some (true, (w, ()), doneP at' (tickS (G w 6))) := by
  have hg := hu.G 6
  obtain ⟨t1, t2, t3⟩ := tick_eq hg.1 hg.2
  have hz : ((w.length : Int) == 0) = false := by simp; intro e; subst e; simp at hl
  unfold m_ticketlinelaw33_looks
  simp only [new_Done, Option.bind_some, Bool.false_eq_true, if_false, new_Result, bne_self_eq_false, new_Tick, hz, Bool.not_true, mem_Do1 (w := w) (i := 6) (by omega) (by omega), beq_self_eq_true, if_true, t1, done_Done, done_Result h0 h1, done_Tick]
theorem mem_Same {w : List Int} (h0 : 0 < w.length) (h1 : w.length ≤ 65536) : m_mem_Mem_Same (w, ()) (w, ()) = some (true, (w, ()), (w, ())) := by
  have hz : ((w.length : Int) == 0) = false := by simp; intro e; subst e; simp at h0
  have eq : ∀ (m n N : Nat) (i : Int), i + m = w.length → 0 ≤ i → m < n → m_slices_Equal_uint64_uint64_l0 N n w w w.length i = some true := by
    intro m
    induction m with
    | zero =>
      intro n N i hm hi hn
      obtain ⟨n, rfl⟩ : ∃ k, n = k + 1 := ⟨n - 1, by omega⟩
      simp [m_slices_Equal_uint64_uint64_l0, m_slices_Equal_uint64_uint64_l0_b, show ¬ i < w.length by omega]
    | succ m ih =>
      intro n N i hm hi hn
      obtain ⟨n, rfl⟩ : ∃ k, n = k + 1 := ⟨n - 1, by omega⟩
      have hlt : i < w.length := by omega
      simp only [m_slices_Equal_uint64_uint64_l0, m_slices_Equal_uint64_uint64_l0_b, hlt, decide_true, if_true, hi, bne_self_eq_false, Bool.false_eq_true, if_false]
      rw [wI (x := i + 1) (by omega) (by omega)]
      exact ih n N (i + 1) (by omega) (by omega) (by omega)
  unfold m_mem_Mem_Same m_slices_Equal_uint64_uint64 m_slices_Equal_uint64_uint64_a
  simp only [hz, Bool.not_false, if_true, bne_self_eq_false, Bool.false_eq_true, if_false, eq w.length FUEL FUEL 0 (by omega) (by omega) (by have := FUEL_big; omega), Option.bind_some]
theorem ref33_Fine (n : Int) : m_ticketlineref33_Fine n = some (decide (0 ≤ n) && decide (n ≤ 1099511627776)) := by
  unfold m_ticketlineref33_Fine
  by_cases e : n ≥ 0
  · simp [e, show 0 ≤ n from e]
  · simp [e, show ¬ 0 ≤ n from e]
theorem ref33_Seen {v : Int} (h0 : 0 ≤ v) (h1 : v < 18446744073709551616) : m_ticketlineref33_Seen v = some (tickS v) := by
  unfold m_ticketlineref33_Seen tickS
  by_cases e : 1099511627776 < v
  · simp [e]
  · simp [e, wI (x := v) (by omega) (by omega)]
theorem ref33_Result (at' tick : Int) : m_ticketlineref33_Result at' tick = some (resS at' tick) := by
  unfold m_ticketlineref33_Result resS
  by_cases e : at' = 0
  · simp [e]
  · by_cases e2 : tick > at'
    · simp [e, e2]
    · simp [e, e2]
theorem known33 : m_ticketlinelaw33_known = some true := rfl
theorem given33 : m_ticketlinelaw33_given = some ((1 : Int), ((1 : Int), ())) := rfl
end Go.Ev.L
