/- Law 16: what a changed page has; many changes. -/
import Derived.Test.YtfohnbfhajkelaaQ5
import Derived.Test.YtfohnbfhajkelaaPgB
set_option linter.unusedVariables false
set_option linter.unusedSimpArgs false
set_option linter.unusedSectionVars false
set_option maxRecDepth 10000
namespace Go.Ev.L
open Go Go.Ev Go.Ev.M

theorem srt_pw : ∀ {l : List Pr}, srt l = true ↔ l.Pairwise (fun a b => strLt a.1 b.1 = true) := by
  intro l
  induction l with
  | nil => exact ⟨fun _ => List.Pairwise.nil, fun _ => rfl⟩
  | cons x r ih =>
    rw [List.pairwise_cons]
    constructor
    · intro h; exact ⟨srt_head h, ih.1 (srt_tail h)⟩
    · rintro ⟨h1, h2⟩
      cases r with
      | nil => rfl
      | cons y r => rw [srt_cons2, h1 y (List.mem_cons_self ..), ih.2 h2]; rfl

/-- the slots after a key has come -/
def insL (p : List Int) (x : Pr) : List Pr := (pairsS p).take (keyI p x.1) ++ x :: (pairsS p).drop (if isI p x.1 = true then keyI p x.1 + 1 else keyI p x.1)
section
variable {p : List Int} (hp : PageOK p) (hs : srtB p = true) {x : Pr}
include hp hs
theorem insL_srt : srt (insL p x) = true := by
  obtain ⟨hv, hsr⟩ := srtB_spec hs
  have hl : (pairsS p).length = count p := pairsTo_length _ _
  have pw := srt_pw.1 hsr
  have e : ∀ m : Nat, (hm : m < (pairsS p).length) → (pairsS p)[m] = pairOf p (m : Int) := fun m hm => by simp [pairsS, pairsTo]
  have before : ∀ a, a ∈ (pairsS p).take (keyI p x.1) → strLt a.1 x.1 = true := by
    intro a ha
    obtain ⟨j, hj, rfl⟩ := List.getElem_of_mem ha
    rw [List.length_take] at hj
    rw [List.getElem_take]
    exact posS_lt (key := x.1) (by omega) (by unfold keyI at hj; omega)
  have behind : ∀ c, c ∈ (pairsS p).drop (if isI p x.1 = true then keyI p x.1 + 1 else keyI p x.1) → strLt x.1 c.1 = true := by
    intro c hc
    obtain ⟨j, hj, rfl⟩ := List.getElem_of_mem hc
    rw [List.length_drop] at hj
    rw [List.getElem_drop, e _ (by omega)]
    refine key_behind hp hs ?_ (by omega) fun h => ?_
    · split <;> omega
    · rw [if_pos h]; omega
  unfold insL
  rw [srt_pw, List.pairwise_append, List.pairwise_cons]
  refine ⟨pw.sublist (List.take_sublist _ _), ⟨behind, pw.sublist (List.drop_sublist _ _)⟩, fun a ha c hc => ?_⟩
  rcases List.mem_cons.1 hc with rfl | hc
  · exact before a ha
  · exact strLt_trans (before a ha) (behind c hc)
/-- a page that a key came into -/
theorem put_facts {absent : Bool} (h1 : x.1.size ≤ 1000) (h2 : x.2.1.size ≤ 1000) (hE : putE p x absent = 0) : PageOK (putP p x) ∧ validB (putP p x) = true ∧ pairsS (putP p x) = insL p x ∧ (∀ j, 0 ≤ j → j < 20 → j ≠ 9 → j ≠ 11 → G (putP p x) j = G p j) := by
  obtain ⟨hv, hsr⟩ := srtB_spec hs
  obtain ⟨hc, hc9⟩ := count_le hp hv
  have hl : (pairsS p).length = count p := pairsTo_length _ _
  have hE' := hE
  unfold putE at hE
  rw [if_neg (by rw [hs]; decide)] at hE
  by_cases c1 : allowedS (G p 8 == 1) (keyI p x.1) x = 0
  · rw [if_neg (by rw [c1]; decide)] at hE
    by_cases c2 : isI p x.1 = true ∧ absent = true
    · rw [if_pos c2] at hE; exact absurd hE (by decide)
    rw [if_neg c2] at hE
    obtain ⟨a1, a2, a3, a4⟩ := allowed_spec c1
    cases hi : isI p x.1 with
    | true =>
      rw [if_pos hi] at hE
      have c3 : ¬ sumC (pairsS p) + costS x - costS (pairOf p (keyI p x.1)) > 108 := fun c => by rw [if_pos c] at hE; exact absurd hE (by decide)
      obtain ⟨k1, k2⟩ := key_is hp hs hi
      have hx : ((pairOf p (keyI p x.1)).1, (x.2.1, ())) = x := by
        have : (x.1, (x.2.1, ())) = x := rfl
        rw [k2]
      have hins : insL p x = (pairsS p).take (keyI p x.1) ++ x :: (pairsS p).drop (keyI p x.1 + 1) := by unfold insL; rw [if_pos hi]
      unfold putP
      rw [if_pos hi]
      by_cases c4 : W (pairOf p (keyI p x.1)).2.1.size = W x.2.1.size
      · rw [if_pos c4]
        obtain ⟨f1, f2, f3, f4⟩ := over_facts hp hv k1 a4 c4 (by rw [hx]; exact c1)
        refine ⟨f1, f2, ?_, fun j h0 h1 _ _ => f4 j h0 h1⟩
        rw [f3, hx, hins, List.set_eq_take_append_cons_drop, if_pos (by omega)]
      · rw [if_neg c4]
        obtain ⟨t1, t2, t3, t4, t5, t6⟩ := replace_ok hp hs h1 h2 hi c1 (by omega)
        have ct : count (takeS p (keyI p x.1)) = count p - 1 := by
          have := pairsTo_length (takeS p (keyI p x.1)) (count (takeS p (keyI p x.1)))
          have h := congrArg List.length t5
          rw [List.length_eraseIdx_of_lt (by omega), hl] at h
          have h : (pairsTo (takeS p (keyI p x.1)) (count (takeS p (keyI p x.1)))).length = count p - 1 := h
          omega
        obtain ⟨g1, g2, g3, g4⟩ := addS_facts t1 t2 t3 a3 a4 t4 (by rw [t6]; exact c1) fun m m1 m2 => by
          have h3 : (pairsS (takeS p (keyI p x.1)))[m]? = ((pairsS p).eraseIdx (keyI p x.1))[m]? := by rw [t5]
          have h4 : (pairsS (takeS p (keyI p x.1)))[m]? = some (pairOf (takeS p (keyI p x.1)) m) := by
            unfold pairsS pairsTo; rw [List.getElem?_map, List.getElem?_range m2]; rfl
          rw [h4, List.getElem?_eraseIdx, if_neg (by omega)] at h3
          have h5 : (pairsS p)[m + 1]? = some (pairOf p ((m + 1 : Nat) : Int)) := by
            unfold pairsS pairsTo; rw [List.getElem?_map, List.getElem?_range (by omega)]; rfl
          rw [h5] at h3
          rw [Option.some.inj h3]
          exact lt_ne (key_behind hp hs (key := x.1) (by omega) (by omega) fun _ => by omega)
        refine ⟨g1, g2, ?_, fun j h0 h1 h2 h3 => ?_⟩
        · rw [g3, t5, hins, List.eraseIdx_eq_take_drop_succ]
          have hlt : ((pairsS p).take (keyI p x.1)).length = keyI p x.1 := by rw [List.length_take]; omega
          rw [List.take_append_of_le_length (by omega), List.take_of_length_le (by omega), List.drop_append_of_le_length (by omega), List.drop_of_length_le (by omega), List.nil_append]
        · rw [g4 j h0 h1 h2 h3]
          exact (take_facts hp hv k1).2.2.2.1 j h0 h1 h2
    | false =>
      simp only [hi, Bool.false_eq_true, if_false, Int.sub_zero] at hE
      have c3 : ¬ sumC (pairsS p) + costS x > 108 := fun c => by rw [if_pos c] at hE; exact absurd hE (by decide)
      have eP : putP p x = addS p (keyI p x.1) x := by unfold putP; rw [if_neg (by rw [hi]; decide)]
      obtain ⟨g1, g2, g3, g4⟩ := addS_facts hp hv (key_le hp hs x.1) a3 a4 (by omega) c1 fun m m1 m2 => lt_ne (key_behind hp hs (key := x.1) m1 m2 fun h => by rw [hi] at h; cases h)
      rw [eP]
      refine ⟨g1, g2, ?_, g4⟩
      rw [g3]; unfold insL; rw [if_neg (by rw [hi]; decide)]
  · rw [if_pos c1] at hE; exact absurd hE c1
/-- a page that a key went out of -/
theorem rem_facts {key : ByteArray} (hi : isI p key = true) : PageOK (takeS p (keyI p key)) ∧ validB (takeS p (keyI p key)) = true ∧ srtB (takeS p (keyI p key)) = true ∧ pairsS (takeS p (keyI p key)) = (pairsS p).eraseIdx (keyI p key) ∧ (∀ j, 0 ≤ j → j < 20 → j ≠ 9 → G (takeS p (keyI p key)) j = G p j) := by
  obtain ⟨hv, hsr⟩ := srtB_spec hs
  obtain ⟨k1, k2⟩ := key_is hp hs hi
  obtain ⟨t1, t2, t3, t4, t5⟩ := take_facts hp hv k1
  refine ⟨t1, t2, ?_, t3, t4⟩
  unfold srtB
  rw [t2, t3, srt_pw.2 ((srt_pw.1 hsr).sublist (List.eraseIdx_sublist ..))]; rfl
end

abbrev Act16 := Int × (Bool × (Int × (ByteArray × (ByteArray × Unit))))
theorem putR_next {p : List Int} (hp : PageOK p) (hv : validB p = true) {x : Pr} (h1 : x.1.size ≤ 1000) (h2 : x.2.1.size ≤ 1000) (absent : Bool) (h : (putR p x absent).2 = 0) : PageOK (putR p x absent).1 ∧ validB (putR p x absent).1 = true := by
  unfold putR at h ⊢
  by_cases c : putE p x absent = 0
  · rw [if_pos c]
    have hs : srtB p = true := by
      cases hs : srtB p with
      | true => rfl
      | false =>
        unfold putE at c; rw [if_pos hs] at c
        exact absurd c (badS_ne hs)
    obtain ⟨f1, f2, _⟩ := put_facts hp hs h1 h2 c
    exact ⟨f1, f2⟩
  · rw [if_neg c] at h; exact absurd h c
theorem remR_next {p : List Int} (hp : PageOK p) (hv : validB p = true) (key : ByteArray) (h : (remR p key).2.2 = 0) : PageOK (remR p key).1 ∧ validB (remR p key).1 = true := by
  unfold remR at h ⊢
  by_cases c : remE p key = 0
  · rw [if_pos c]
    have hs : srtB p = true := by
      cases hs : srtB p with
      | true => rfl
      | false =>
        unfold remE at c; rw [if_pos hs] at c
        exact absurd c (badS_ne hs)
    have hi : isI p key = true := by
      cases hi : isI p key with
      | true => rfl
      | false =>
        unfold remE at c
        rw [if_neg (by rw [hs]; decide)] at c
        by_cases c1 : key = eB ∧ G p 8 = 1
        · rw [if_pos c1] at c; exact absurd c (by decide)
        rw [if_neg c1] at c
        by_cases c2 : 24 < key.size
        · rw [if_pos c2] at c; exact absurd c (by decide)
        rw [if_neg c2, if_pos hi] at c; exact absurd c (by decide)
    obtain ⟨f1, f2, _⟩ := rem_facts hp hs hi
    exact ⟨f1, f2⟩
  · rw [if_neg c] at h; exact absurd h c
theorem plays_step (N : Nat) (s0 : List Act16 → Int → List Int → Option Bool) (l : List Act16) (i : Nat) (hi : i ≤ 1000) {p : List Int} (hp : PageOK p) (hv : validB p = true) (what : Int) (own : Bool) (idx : Int) {key v : ByteArray} (hk : key.size ≤ 1000) (h2 : v.size ≤ 1000)
    (H : ∀ q, PageOK q → validB q = true → s0 l ((i + 1 : Nat) : Int) q = some true) : m_ticketlinelaw16_PagePlays_l1 N s0 l i p what own idx key v = some true := by
  have w1 : IntKind.i64.wrap ((i : Int) + 1) = ((i + 1 : Nat) : Int) := by rw [wI (by omega) (by omega)]; omega
  have L6 : ∀ (e : Int) (q : List Int), (e = 0 → PageOK q ∧ validB q = true) → m_ticketlinelaw16_PagePlays_l6 N s0 l i e p q = some true := by
    intro e q hq
    simp only [m_ticketlinelaw16_PagePlays_l6, m_ticketlinelaw16_PagePlays_l6_b, m_ticketlinelaw16_PagePlays_l7, m_ticketlinelaw16_PagePlays_l7_b, w1]
    by_cases c : e = 0
    · obtain ⟨q1, q2⟩ := hq c
      rw [c]; simp only [beq_self_eq_true, if_true]; exact H q q1 q2
    · have c' : (e == 0) = false := by simpa using c
      simp only [c', Bool.false_eq_true, if_false]; exact H p hp hv
  obtain ⟨a1, a2, a3⟩ := puts_eq hp (x := (key, (v, ()))) hk h2
  obtain ⟨b1, b2⟩ := removes_eq hp key
  simp only [m_ticketlinelaw16_PagePlays_l1, m_ticketlinelaw16_PagePlays_l1_b, m_ticketlinelaw16_PagePlays_l2, m_ticketlinelaw16_PagePlays_l2_b, m_ticketlinelaw16_PagePlays_l3, m_ticketlinelaw16_PagePlays_l3_b, m_ticketlinelaw16_PagePlays_l4, m_ticketlinelaw16_PagePlays_l4_b]
  by_cases c0 : what = 0
  · subst c0
    have i1 := inserts16 (q := (putR p (key, (v, ())) true).1) (e := (putR p (key, (v, ())) true).2) a1
    have e1 : ((0 : Int) == 1) = false := rfl
    simp only [beq_self_eq_true, if_true, a3, Option.bind_some, m_ticketlinelaw16_PagePlays_l5, m_ticketlinelaw16_PagePlays_l5_b]
    have i1' : m_ticketlinelaw16_inserts p key v (putR p (key, (v, ())) true).1 (putR p (key, (v, ())) true).2 = some true := i1
    simp only [i1', Option.bind_some, Bool.not_true, Bool.false_eq_true, if_false, e1]
    exact L6 _ _ fun h => putR_next hp hv (x := (key, (v, ()))) hk h2 true h
  by_cases c1 : what = 1
  · subst c1
    have i1 : m_ticketlinelaw16_puts p key v (putR p (key, (v, ())) false).1 (putR p (key, (v, ())) false).2 = some true := puts16 a2
    have e1 : ((1 : Int) == 0) = false := rfl
    simp only [e1, beq_self_eq_true, if_true, Bool.false_eq_true, if_false, a3, Option.bind_some, m_ticketlinelaw16_PagePlays_l5, m_ticketlinelaw16_PagePlays_l5_b, i1, Bool.not_true]
    exact L6 _ _ fun h => putR_next hp hv (x := (key, (v, ()))) hk h2 false h
  have n0 : (what == 0) = false := by simpa using c0
  have n1 : (what == 1) = false := by simpa using c1
  by_cases c2 : what = 2
  · subst c2
    have i1 : m_ticketlinelaw16_removes p key (remR p key).1 (remR p key).2.1 (remR p key).2.2 = some true := removes16 b1
    simp only [n0, n1, beq_self_eq_true, if_true, Bool.false_eq_true, if_false, m_ticketlinelaw16_PagePlays_l8, m_ticketlinelaw16_PagePlays_l8_b, b2, Option.bind_some, m_ticketlinelaw16_PagePlays_l9, m_ticketlinelaw16_PagePlays_l9_b, i1, Bool.not_true]
    exact L6 _ _ fun h => remR_next hp hv key h
  have n2 : (what == 2) = false := by simpa using c2
  by_cases c3 : what = 3
  · subst c3
    obtain ⟨f1, f2, _⟩ := comp_facts hp hv
    have e1 : ((3 : Int) == 0) = false := rfl
    simp only [n0, n1, n2, beq_self_eq_true, if_true, Bool.false_eq_true, if_false, ref16_Compact' hp hv, Option.bind_some, m_ticketlinelaw16_PagePlays_l10, m_ticketlinelaw16_PagePlays_l10_b, page_Compact hp, hv, m_ticketlinelaw16_PagePlays_l11, m_ticketlinelaw16_PagePlays_l11_b, beq_refl_page, Bool.not_true, bne_self_eq_false]
    exact L6 _ _ fun _ => ⟨f1, f2⟩
  have n3 : (what == 3) = false := by simpa using c3
  simp only [n0, n1, n2, n3, Bool.false_eq_true, if_false]
  exact L6 _ _ fun _ => ⟨hp, hv⟩
def GA (l : List Act16) (i : Int) : Act16 := l.getD i.toNat (0, (false, (0, (eB, (eB, ())))))
theorem rd_GA (l : List Act16) (i : Int) : rd (.pair (.int .i64) (.pair .bool (.pair (.int .u8) (.pair .str (.pair .str .nl))))) l i = GA l i := rfl
theorem GA_get {l : List Act16} {i : Nat} (h : i < l.length) : GA l (i : Int) = l[i] := by
  unfold GA; rw [show (i : Int).toNat = i by omega, List.getD_eq_getElem?_getD, List.getElem?_eq_getElem h]; rfl
theorem plays_l0 {l : List Act16} (hl : l.length ≤ 40) (hw : ∀ a, a ∈ l → 0 ≤ a.2.2.1 ∧ a.2.2.1 < 256) : ∀ (m n N i : Nat) (p : List Int), i + m = l.length → m < n → PageOK p → validB p = true → m_ticketlinelaw16_PagePlays_l0 N n l i p = some true := by
  intro m
  induction m with
  | zero =>
    intro n N i p hm hn hp hv
    obtain ⟨n, rfl⟩ : ∃ q, n = q + 1 := ⟨n - 1, by omega⟩
    simp only [m_ticketlinelaw16_PagePlays_l0, m_ticketlinelaw16_PagePlays_l0_b, show ¬ (i : Int) < (l.length : Int) by omega, decide_false, Bool.false_eq_true, if_false, known16, Option.bind_some]
  | succ m ih =>
    intro n N i p hm hn hp hv
    obtain ⟨n, rfl⟩ : ∃ q, n = q + 1 := ⟨n - 1, by omega⟩
    have hi : i < l.length := by omega
    have hwa := hw _ (List.getElem_mem hi)
    have hga := GA_get hi
    rw [← hga] at hwa
    have hlp : (pairsS p).length = count p := pairsTo_length _ _
    obtain ⟨hc, hc9⟩ := count_le hp hv
    have H : ∀ q, PageOK q → validB q = true → m_ticketlinelaw16_PagePlays_l0 N n l ((i + 1 : Nat) : Int) q = some true := fun q q1 q2 => ih n N (i + 1) q (by omega) (by omega) q1 q2
    simp only [m_ticketlinelaw16_PagePlays_l0, m_ticketlinelaw16_PagePlays_l0_b, show (i : Int) < (l.length : Int) by omega, decide_true, if_true, Int.natCast_nonneg, rd_GA, known16, Option.bind_some]
    by_cases c1 : ((GA l i).2.2.2.1.size : Int) > 60
    · simp only [c1, decide_true, if_true]
    by_cases c2 : ((GA l i).2.2.2.2.1.size : Int) > 60
    · simp only [c1, c2, decide_true, decide_false, if_true, Bool.false_eq_true, if_false]
    simp only [c1, c2, decide_false, Bool.false_eq_true, if_false, ref_Pairs hp hv, Option.bind_some]
    have plain := plays_step N (m_ticketlinelaw16_PagePlays_l0 N n) l i (by omega) hp hv (GA l i).1 (GA l i).2.1 (GA l i).2.2.1 (key := (GA l i).2.2.2.1) (v := (GA l i).2.2.2.2.1) (by omega) (by omega) H
    by_cases ho : (GA l i).2.1 = true
    · simp only [ho, if_true]
      by_cases c3 : ((pairsS p).length : Int) > 0
      · have w1 : IntKind.i64.wrap (GA l i).2.2.1 = (GA l i).2.2.1 := wI (by omega) (by omega)
        have tm : Int.tmod (GA l i).2.2.1 ((pairsS p).length : Int) = (GA l i).2.2.1 % ((pairsS p).length : Int) := Int.tmod_eq_emod_of_nonneg hwa.1
        have m0 : 0 ≤ (GA l i).2.2.1 % ((pairsS p).length : Int) := Int.emod_nonneg _ (by omega)
        have m1 : (GA l i).2.2.1 % ((pairsS p).length : Int) < ((pairsS p).length : Int) := Int.emod_lt_of_pos _ (by omega)
        have hgp := GP_pairs (p := p) m0 (by omega)
        have hsz := pairOf_size p ((GA l i).2.2.1 % ((pairsS p).length : Int))
        have step := plays_step N (m_ticketlinelaw16_PagePlays_l0 N n) l i (by omega) hp hv (GA l i).1 true (GA l i).2.2.1 (key := (pairOf p ((GA l i).2.2.1 % ((pairsS p).length : Int))).1) (v := (GA l i).2.2.2.2.1) (by omega) (by omega) H
        simp only [c3, decide_true, if_true, show ((pairsS p).length : Int) ≠ 0 by omega, ne_eq, not_false_eq_true, w1, tm, m0, m1, rd_GP, hgp, step]
      · rw [ho] at plain; simp only [c3, decide_false, Bool.false_eq_true, if_false, plain]
    · have ho' : (GA l i).2.1 = false := by simpa using ho
      rw [ho'] at plain
      simp only [ho', Bool.false_eq_true, if_false, plain]
theorem pagePlays_true {x : Pln} (h : PlnOK x) {l : List Act16} (hw : ∀ a, a ∈ l → 0 ≤ a.2.2.1 ∧ a.2.2.1 < 256) : m_ticketlinelaw16_PagePlays x l = some true := by
  obtain ⟨p, u, h1, hp, h3, h4⟩ := plan_used h
  unfold m_ticketlinelaw16_PagePlays m_ticketlinelaw16_PagePlays_a
  rw [h4]
  simp only [Option.bind_some, known16]
  cases hc : (u && validB p) with
  | false => simp only [Bool.not_false, if_true]
  | true =>
    simp only [Bool.and_eq_true] at hc
    by_cases c1 : (l.length : Int) > 40
    · simp only [Bool.not_true, Bool.false_eq_true, if_false, c1, decide_true, if_true]
    simp only [Bool.not_true, Bool.false_eq_true, if_false, c1, decide_false, ref15_Bad hp, Option.bind_some]
    cases hb : (badS p != 0) with
    | true => simp only [if_true]
    | false =>
      simp only [Bool.false_eq_true, if_false]
      exact plays_l0 (by omega) hw l.length FUEL FUEL 0 p (by omega) (by have := FUEL_big; omega) hp hc.2
end Go.Ev.L
