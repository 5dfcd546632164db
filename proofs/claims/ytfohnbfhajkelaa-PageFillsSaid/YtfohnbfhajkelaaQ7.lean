/- Law 16: the theorem of the stage. -/
import Derived.Test.YtfohnbfhajkelaaQ6
set_option linter.unusedVariables false
set_option linter.unusedSimpArgs false
set_option linter.unusedSectionVars false
set_option maxRecDepth 10000
namespace Go.Ev.L
open Go Go.Ev Go.Ev.M

theorem sum_insL {p : List Int} (hp : PageOK p) (hs : srtB p = true) (x : Pr) : sumC (insL p x) = sumC (pairsS p) + costS x - (if isI p x.1 = true then costS (pairOf p (keyI p x.1)) else 0) := by
  have hl : (pairsS p).length = count p := pairsTo_length _ _
  have hk := key_le hp hs x.1
  have h1 := pre_split (pairsS p) (keyI p x.1)
  unfold pre at h1
  unfold insL
  rw [sumC_append]
  show sumC ((pairsS p).take (keyI p x.1)) + (costS x + sumC ((pairsS p).drop _)) = _
  by_cases hi : isI p x.1 = true
  · rw [if_pos hi, if_pos hi]
    obtain ⟨k1, k2⟩ := key_is hp hs hi
    have e : (pairsS p)[keyI p x.1]'(by omega) = pairOf p (keyI p x.1) := by simp [pairsS, pairsTo]
    rw [List.drop_eq_getElem_cons (show keyI p x.1 < (pairsS p).length by omega), e] at h1
    have h1 : sumC ((pairsS p).take (keyI p x.1)) + (costS (pairOf p (keyI p x.1)) + sumC ((pairsS p).drop (keyI p x.1 + 1))) = sumC (pairsS p) := h1
    omega
  · rw [if_neg hi, if_neg hi]; omega
theorem small_insL {p : List Int} (hp : PageOK p) (hs : srtB p = true) {x : Pr} (h1 : x.1.size ≤ 1000) (h2 : x.2.1.size ≤ 1000) : SmallL (insL p x) := by
  obtain ⟨hv, hsr⟩ := srtB_spec hs
  obtain ⟨hc, hc9⟩ := count_le hp hv
  have hl : (pairsS p).length = count p := pairsTo_length _ _
  have hsm := pairsTo_small (p := p) (n := count p) (by omega)
  refine ⟨?_, fun y hy => ?_⟩
  · unfold insL
    rw [List.length_append, List.length_cons, List.length_take, List.length_drop]; omega
  · unfold insL at hy
    rcases List.mem_append.1 hy with hy | hy
    · exact hsm.2 y (List.mem_of_mem_take hy)
    · rcases List.mem_cons.1 hy with rfl | hy
      · exact ⟨h1, h2⟩
      · exact hsm.2 y (List.mem_of_mem_drop hy)

/-- a leaf in the course of the law -/
structure Leaf (p : List Int) : Prop where
  page : PageOK p
  srt : srtB p = true
  kind : G p 8 = 1
section
variable {N : Nat} {s0 : List Act16 → Int → List Int → List Pr → Option Bool} {l : List Act16} {i : Nat} (hi : i ≤ 1000) {p : List Int} (L : Leaf p) (H : ∀ q, Leaf q → s0 l ((i + 1 : Nat) : Int) q (pairsS q) = some true)
include hi L H
theorem holds16_l12 {q : List Int} (hq : Leaf q) : m_ticketlinelaw16_PageHolds_l12 N s0 l i q (pairsS q) = some true := by
  have w1 : IntKind.i64.wrap ((i : Int) + 1) = ((i + 1 : Nat) : Int) := by rw [wI (by omega) (by omega)]; omega
  simp only [m_ticketlinelaw16_PageHolds_l12, m_ticketlinelaw16_PageHolds_l12_b, w1, H q hq]
theorem holds16_l17 {q : List Int} (hq : Leaf q) (hh : ∀ j, 0 ≤ j → j < 20 → j ≠ 9 → j ≠ 11 → G q j = G p j) : ∀ (m n w : Nat), w + m = 20 → m < n → m_ticketlinelaw16_PageHolds_l17 N s0 n l i w p q (pairsS q) = some true := by
  intro m
  induction m with
  | zero =>
    intro n w hm hn
    obtain ⟨n, rfl⟩ : ∃ q, n = q + 1 := ⟨n - 1, by omega⟩
    simp only [m_ticketlinelaw16_PageHolds_l17, m_ticketlinelaw16_PageHolds_l17_b, show ¬ (w : Int) < 20 by omega, decide_false, Bool.false_eq_true, if_false, holds16_l12 hi L H hq]
  | succ m ih =>
    intro n w hm hn
    obtain ⟨n, rfl⟩ : ∃ q, n = q + 1 := ⟨n - 1, by omega⟩
    have w1 : IntKind.i64.wrap ((w : Int) + 1) = ((w + 1 : Nat) : Int) := by rw [wI (by omega) (by omega)]; omega
    have I := ih n (w + 1) (by omega) (by omega)
    simp only [m_ticketlinelaw16_PageHolds_l17, m_ticketlinelaw16_PageHolds_l17_b, show (w : Int) < 20 by omega, decide_true, if_true, m_ticketlinelaw16_PageHolds_l18, m_ticketlinelaw16_PageHolds_l18_b, w1, I, Int.natCast_nonneg, show (w : Int) < 128 by omega, rd_G]
    by_cases c9 : (w : Int) = 9
    · rw [if_neg (by rw [c9]; decide)]
    rw [if_pos (by simpa using c9)]
    by_cases c11 : (w : Int) = 11
    · rw [if_neg (by rw [c11]; decide)]
    rw [if_pos (by simpa using c11), hh w (by omega) (by omega) c9 c11]
    simp only [bne_self_eq_false, Bool.false_eq_true, if_false]
theorem holds16_l13 {q : List Int} (hq : Leaf q) (hh : ∀ j, 0 ≤ j → j < 20 → j ≠ 9 → j ≠ 11 → G q j = G p j) {next : List Pr} (hn : next = pairsS q) (hN : 100 < N) : m_ticketlinelaw16_PageHolds_l13 N s0 l i p q next = some true := by
  subst hn
  obtain ⟨hv, hsr⟩ := srtB_spec hq.srt
  obtain ⟨hc, hc9⟩ := count_le hq.page hv
  have hl : (pairsS q).length = count q := pairsTo_length _ _
  have hs := same_refl (pairsS q) (by omega)
  have L17 : m_ticketlinelaw16_PageHolds_l17 N s0 N l i 0 p q (pairsS q) = some true := holds16_l17 hi L H hq hh 20 N 0 (by omega) (by omega)
  simp only [m_ticketlinelaw16_PageHolds_l13, m_ticketlinelaw16_PageHolds_l13_b, m_ticketlinelaw16_PageHolds_l14, m_ticketlinelaw16_PageHolds_l14_b, ref_Valid hq.page, hv, Option.bind_some, Bool.not_true, Bool.false_eq_true, if_false, ref_Pairs hq.page hv, hs, rd_G, hh 10 (by omega) (by omega) (by omega) (by omega), bne_self_eq_false,
    m_ticketlinelaw16_PageHolds_l15, m_ticketlinelaw16_PageHolds_l15_b, m_ticketlinelaw16_PageHolds_l16, m_ticketlinelaw16_PageHolds_l16_b, L17]
theorem holds16_step (hN : 100 < N) (what : Int) (own : Bool) (idx : Int) {key v : ByteArray} (k1 : 1 ≤ key.size) (k2 : key.size ≤ 24) (h40 : v.size ≤ 40) : m_ticketlinelaw16_PageHolds_l1 N s0 l i p (pairsS p) what own idx key v = some true := by
  obtain ⟨hp, hs, h8⟩ := L
  have L' : Leaf p := ⟨hp, hs, h8⟩
  obtain ⟨hv, hsr⟩ := srtB_spec hs
  obtain ⟨hc, hc9⟩ := count_le hp hv
  have hl : (pairsS p).length = count p := pairsTo_length _ _
  have hkne : key ≠ eB := fun e => by rw [e] at k1; exact absurd k1 (by decide)
  have e8 : (G p 8 == 1) = true := by simpa using h8
  have hkl := key_le hp hs key
  have hF := ref15_Find key (pairsS p) (by omega)
  have hkI : ((posS key (pairsS p) : Nat) : Int) = (keyI p key : Int) := rfl
  have hiI : isS key (pairsS p) = isI p key := rfl
  rw [hkI, hiI] at hF
  have L12 := holds16_l12 hi L' H L' (N := N)
  have ha : allowedS true (keyI p key) (key, (v, ())) = 0 := by
    unfold allowedS
    rw [if_neg (fun h => hkne h.1), if_neg (fun h => by cases h.1), if_neg (by dsimp only; omega)]
  have hE : ∀ absent, putE p (key, (v, ())) absent = if isI p key = true ∧ absent = true then 11 else if sumC (insL p (key, (v, ()))) > 108 then 7 else 0 := by
    intro absent
    have ha' : allowedS (G p 8 == 1) (keyI p key) (key, (v, ())) = 0 := by rw [e8]; exact ha
    unfold putE
    rw [sum_insL hp hs, if_neg (by rw [hs]; decide), if_neg (by rw [ha']; decide)]
  have hS := ref_Sum (small_insL hp hs (x := (key, (v, ()))) (show key.size ≤ 1000 by omega) (show v.size ≤ 1000 by omega))
  obtain ⟨a1, a2, _⟩ := puts_eq hp (x := (key, (v, ()))) (show key.size ≤ 1000 by omega) (show v.size ≤ 1000 by omega)
  have a1 : m_page_Insert p key v = some (putR p (key, (v, ())) true) := a1
  have a2 : m_page_Put p key v = some (putR p (key, (v, ())) false) := a2
  have hput : ∀ absent, putE p (key, (v, ())) absent = 0 → m_ticketlinelaw16_PageHolds_l13 N s0 l i p (putR p (key, (v, ())) absent).1 (insL p (key, (v, ()))) = some true := by
    intro absent h0
    obtain ⟨f1, f2, f3, f4⟩ := put_facts hp hs (x := (key, (v, ()))) (show key.size ≤ 1000 by omega) (show v.size ≤ 1000 by omega) h0
    have hR : (putR p (key, (v, ())) absent).1 = putP p (key, (v, ())) := by unfold putR; rw [if_pos h0]
    rw [hR]
    refine holds16_l13 hi L' H ⟨f1, ?_, by rw [f4 8 (by omega) (by omega) (by omega) (by omega)]; exact h8⟩ f4 f3.symm hN
    unfold srtB; rw [f2, f3, insL_srt hp hs]; rfl
  have hR2 : ∀ absent, (putR p (key, (v, ())) absent).2 = putE p (key, (v, ())) absent := by
    intro absent; unfold putR; split
    · rename_i h; exact h.symm
    · rfl
  have wt : win (pairsS p) 0 ((keyI p key : Int) - 0) = (pairsS p).take (keyI p key) := win_take
  have wd1 : ∀ k : Nat, win (pairsS p) k (((pairsS p).length : Int) - k) = (pairsS p).drop k := fun k => win_drop
  have fits1 : ∀ n : Nat, n ≤ 1000 → fits n 32 := fun n h => by unfold fits; omega
  have ltk : ((pairsS p).take (keyI p key)).length = keyI p key := by rw [List.length_take]; omega
  have w1 : IntKind.i64.wrap ((keyI p key : Int) + 1) = ((keyI p key + 1 : Nat) : Int) := by rw [wI (by omega) (by omega)]; omega
  have nx1 : isI p key = true → (pairsS p).take (keyI p key) ++ [(key, (v, ()))] ++ (pairsS p).drop (keyI p key + 1) = insL p (key, (v, ())) := by
    intro h; unfold insL; rw [if_pos h, List.append_assoc]; rfl
  have nx0 : isI p key = false → (pairsS p).take (keyI p key) ++ [(key, (v, ()))] ++ (pairsS p).drop (keyI p key) = insL p (key, (v, ())) := by
    intro h; unfold insL; rw [if_neg (by dsimp only; rw [h]; decide), List.append_assoc]; rfl
  simp only [m_ticketlinelaw16_PageHolds_l1, m_ticketlinelaw16_PageHolds_l1_b, hF, Option.bind_some, m_ticketlinelaw16_PageHolds_l2, m_ticketlinelaw16_PageHolds_l2_b, m_ticketlinelaw16_PageHolds_l3, m_ticketlinelaw16_PageHolds_l3_b, m_ticketlinelaw16_PageHolds_l4, m_ticketlinelaw16_PageHolds_l4_b, m_ticketlinelaw16_PageHolds_l5, m_ticketlinelaw16_PageHolds_l5_b, m_ticketlinelaw16_PageHolds_l6, m_ticketlinelaw16_PageHolds_l6_b]
  -- what comes behind an insertion
  have L11 : ∀ (absent : Bool) (want : Int), want = putE p (key, (v, ())) absent → m_ticketlinelaw16_PageHolds_l11 N s0 l i (putR p (key, (v, ())) absent).2 want p (pairsS p) (insL p (key, (v, ()))) (putR p (key, (v, ())) absent).1 = some true := by
    intro absent want hw
    simp only [m_ticketlinelaw16_PageHolds_l11, m_ticketlinelaw16_PageHolds_l11_b, hR2, hw, bne_self_eq_false, Bool.false_eq_true, if_false]
    by_cases c : putE p (key, (v, ())) absent = 0
    · rw [if_neg (by rw [c]; decide)]; exact hput absent c
    · rw [if_pos (by simpa using c)]; exact L12
  by_cases c0 : what = 0
  · subst c0
    have L10 : m_ticketlinelaw16_PageHolds_l9 N s0 l i (isI p key) (putR p (key, (v, ())) true).2 p (pairsS p) 0 own idx key v (insL p (key, (v, ()))) (putR p (key, (v, ())) true).1 = some true := by
      simp only [m_ticketlinelaw16_PageHolds_l9, m_ticketlinelaw16_PageHolds_l9_b, m_ticketlinelaw16_PageHolds_l10, m_ticketlinelaw16_PageHolds_l10_b, beq_self_eq_true, if_true, hS, Option.bind_some]
      cases hi2 : isI p key with
      | true => simp only [if_true]; exact L11 true 11 (by rw [hE, if_pos ⟨hi2, rfl⟩])
      | false =>
        simp only [Bool.false_eq_true, if_false]
        by_cases c : sumC (insL p (key, (v, ()))) > 108
        · simp only [c, decide_true, if_true]; exact L11 true 7 (by rw [hE, if_neg (by rw [hi2]; simp), if_pos c])
        · simp only [c, decide_false, Bool.false_eq_true, if_false]; exact L11 true 0 (by rw [hE, if_neg (by rw [hi2]; simp), if_neg c])
    simp only [beq_self_eq_true, if_true, Int.natCast_nonneg, show (keyI p key : Int) ≤ ((pairsS p).length : Int) by omega, wt, ltk, fits1 _ (show keyI p key ≤ 1000 by omega), fits1 _ (show keyI p key + [(key, (v, ()))].length ≤ 1000 by show keyI p key + 1 ≤ 1000; omega), m_ticketlinelaw16_PageHolds_l7, m_ticketlinelaw16_PageHolds_l7_b, Int.le_refl, w1, wd1]
    cases hi2 : isI p key with
    | true =>
      obtain ⟨q1, q2⟩ := key_is hp hs hi2
      have hf : fits ((((pairsS p).take (keyI p key) ++ [(key, (v, ()))])).length + ((pairsS p).drop (keyI p key + 1)).length) 32 := fits1 _ (by rw [List.length_append, ltk, List.length_drop]; show keyI p key + 1 + _ ≤ _; omega)
      rw [hi2] at L10
      simp only [if_true, show ((keyI p key + 1 : Nat) : Int) ≤ ((pairsS p).length : Int) by omega, hf, nx1 hi2, m_ticketlinelaw16_PageHolds_l8, m_ticketlinelaw16_PageHolds_l8_b, beq_self_eq_true, a1, Option.bind_some, L10]
    | false =>
      have hf : fits ((((pairsS p).take (keyI p key) ++ [(key, (v, ()))])).length + ((pairsS p).drop (keyI p key)).length) 32 := fits1 _ (by rw [List.length_append, ltk, List.length_drop]; show keyI p key + 1 + _ ≤ _; omega)
      rw [hi2] at L10
      simp only [Bool.false_eq_true, if_false, if_true, hf, nx0 hi2, m_ticketlinelaw16_PageHolds_l8, m_ticketlinelaw16_PageHolds_l8_b, beq_self_eq_true, a1, Option.bind_some, L10]
  have n0 : (what == 0) = false := by simpa using c0
  by_cases c1 : what = 1
  · subst c1
    have L10 : ∀ is : Bool, m_ticketlinelaw16_PageHolds_l9 N s0 l i is (putR p (key, (v, ())) false).2 p (pairsS p) 1 own idx key v (insL p (key, (v, ()))) (putR p (key, (v, ())) false).1 = some true := by
      intro is
      simp only [m_ticketlinelaw16_PageHolds_l9, m_ticketlinelaw16_PageHolds_l9_b, m_ticketlinelaw16_PageHolds_l10, m_ticketlinelaw16_PageHolds_l10_b, n0, Bool.false_eq_true, if_false, hS, Option.bind_some]
      by_cases c : sumC (insL p (key, (v, ()))) > 108
      · simp only [c, decide_true, if_true]; exact L11 false 7 (by rw [hE, if_neg (by simp), if_pos c])
      · simp only [c, decide_false, Bool.false_eq_true, if_false]; exact L11 false 0 (by rw [hE, if_neg (by simp), if_neg c])
    simp only [n0, Bool.false_eq_true, if_false, beq_self_eq_true, if_true, Int.natCast_nonneg, show (keyI p key : Int) ≤ ((pairsS p).length : Int) by omega, wt, ltk, fits1 _ (show keyI p key ≤ 1000 by omega), fits1 _ (show keyI p key + [(key, (v, ()))].length ≤ 1000 by show keyI p key + 1 ≤ 1000; omega), m_ticketlinelaw16_PageHolds_l7, m_ticketlinelaw16_PageHolds_l7_b, Int.le_refl, w1, wd1]
    cases hi2 : isI p key with
    | true =>
      obtain ⟨q1, q2⟩ := key_is hp hs hi2
      have hf : fits ((((pairsS p).take (keyI p key) ++ [(key, (v, ()))])).length + ((pairsS p).drop (keyI p key + 1)).length) 32 := fits1 _ (by rw [List.length_append, ltk, List.length_drop]; show keyI p key + 1 + _ ≤ _; omega)
      simp only [if_true, show ((keyI p key + 1 : Nat) : Int) ≤ ((pairsS p).length : Int) by omega, hf, nx1 hi2, m_ticketlinelaw16_PageHolds_l8, m_ticketlinelaw16_PageHolds_l8_b, n0, Bool.false_eq_true, if_false, a2, Option.bind_some, L10]
    | false =>
      have hf : fits ((((pairsS p).take (keyI p key) ++ [(key, (v, ()))])).length + ((pairsS p).drop (keyI p key)).length) 32 := fits1 _ (by rw [List.length_append, ltk, List.length_drop]; show keyI p key + 1 + _ ≤ _; omega)
      simp only [Bool.false_eq_true, if_false, if_true, hf, nx0 hi2, m_ticketlinelaw16_PageHolds_l8, m_ticketlinelaw16_PageHolds_l8_b, n0, a2, Option.bind_some, L10]
  have n1 : (what == 1) = false := by simpa using c1
  by_cases c2 : what = 2
  · subst c2
    obtain ⟨b1, b2⟩ := removes_eq hp key
    have se : ¬ (key = eB ∧ G p 8 = 1) := fun h => hkne h.1
    simp only [n0, n1, Bool.false_eq_true, if_false, beq_self_eq_true, if_true, m_ticketlinelaw16_PageHolds_l19, m_ticketlinelaw16_PageHolds_l19_b, b1, Option.bind_some, m_ticketlinelaw16_PageHolds_l20, m_ticketlinelaw16_PageHolds_l20_b]
    cases hi2 : isI p key with
    | true =>
      obtain ⟨q1, q2⟩ := key_is hp hs hi2
      have hE0 : remE p key = 0 := by unfold remE; rw [if_neg (by rw [hs]; decide), if_neg se, if_neg (by omega), if_neg (by rw [hi2]; decide)]
      have hR : remR p key = (takeS p (keyI p key), (pairOf p (keyI p key)).2.1, 0) := by unfold remR; rw [if_pos hE0]
      have hgp : GP (pairsS p) (keyI p key : Int) = pairOf p (keyI p key) := GP_pairs (by omega) (by omega)
      obtain ⟨f1, f2, f3, f4, f5⟩ := rem_facts hp hs hi2
      have hf : fits (keyI p key + ((pairsS p).drop (keyI p key + 1)).length) 32 := fits1 _ (by rw [List.length_drop]; omega)
      have hnx : (pairsS p).take (keyI p key) ++ (pairsS p).drop (keyI p key + 1) = pairsS (takeS p (keyI p key)) := by rw [f4, List.eraseIdx_eq_take_drop_succ]
      have L13 := holds16_l13 hi L' H (q := takeS p (keyI p key)) ⟨f1, f3, by rw [f5 8 (by omega) (by omega) (by omega)]; exact h8⟩ (fun j j0 j1 j2 _ => f5 j j0 j1 j2) hnx (N := N) hN
      simp only [hR, beq_self_eq_true, Bool.not_true, Bool.false_eq_true, if_false, if_true, Int.natCast_nonneg, show (keyI p key : Int) < ((pairsS p).length : Int) by omega, rd_GP, hgp, strEq_refl, m_ticketlinelaw16_PageHolds_l21, m_ticketlinelaw16_PageHolds_l21_b, show (keyI p key : Int) ≤ ((pairsS p).length : Int) by omega, wt, ltk, fits1 _ (show keyI p key ≤ 1000 by omega), Int.le_refl, w1, show ((keyI p key + 1 : Nat) : Int) ≤ ((pairsS p).length : Int) by omega, wd1, hf, bne_self_eq_false, L13]
    | false =>
      have hE0 : remE p key = 9 := by unfold remE; rw [if_neg (by rw [hs]; decide), if_neg se, if_neg (by omega), if_pos hi2]
      have hR : remR p key = (List.replicate 128 0, eB, 9) := by unfold remR; rw [hE0, if_neg (by decide)]
      have e9 : ((9 : Int) == 0) = false := rfl
      have n9 : ((9 : Int) != 0) = true := rfl
      simp only [hR, e9, n9, beq_self_eq_true, Bool.not_true, Bool.not_false, Bool.false_eq_true, if_false, if_true, bne_self_eq_false, m_ticketlinelaw16_PageHolds_l21, m_ticketlinelaw16_PageHolds_l21_b, L12]
  have n2 : (what == 2) = false := by simpa using c2
  obtain ⟨f1, f2, f3, f4, f5, f6⟩ := comp_facts hp hv
  have L13 := holds16_l13 hi L' H (q := compS p) ⟨f1, by unfold srtB; rw [f2, f3, hsr]; rfl, by rw [f4 8 (by omega) (by omega) (by omega) (by omega)]; exact h8⟩ f4 (next := pairsS p) f3.symm (N := N) hN
  have hS2 : m_ticketlineref14_Sum (pairsS p) = some (sumC (pairsS p)) := ref_Sum (pairsTo_small (by omega))
  have h108 := sum_108 hp hv
  have nn := sumC_nonneg (l := pairsS p) (pairsTo_small (p := p) (n := count p) (by omega)).2
  have g11 := f1.2.G 11
  have W1 : IntKind.i64.wrap (IntKind.i64.wrap (IntKind.i64.wrap (G (compS p) 11) - 20) - ((pairsS p).length : Int)) = IntKind.i64.wrap (108 - sumC (pairsS p)) := by
    rw [f6, wI (x := 128 - (sumC (pairsS p) - ((pairsS p).length : Int))) (by omega) (by omega), wI (x := 128 - (sumC (pairsS p) - ((pairsS p).length : Int)) - 20) (by omega) (by omega)]
    congr 1; omega
  simp only [n0, n1, n2, Bool.false_eq_true, if_false, m_ticketlinelaw16_PageHolds_l22, m_ticketlinelaw16_PageHolds_l22_b, page_Compact hp, hv, if_true, Option.bind_some, m_ticketlinelaw16_PageHolds_l23, m_ticketlinelaw16_PageHolds_l23_b, bne_self_eq_false, hS2, rd_G, W1, L13]
end
theorem holds16_l0 {l : List Act16} (hl : l.length ≤ 30) (hw : ∀ a, a ∈ l → 0 ≤ a.2.2.1 ∧ a.2.2.1 < 256) : ∀ (m n N i : Nat) (p : List Int), 100 < N → i + m = l.length → m < n → Leaf p → m_ticketlinelaw16_PageHolds_l0 N n l i p (pairsS p) = some true := by
  intro m
  induction m with
  | zero =>
    intro n N i p hN hm hn L
    obtain ⟨n, rfl⟩ : ∃ q, n = q + 1 := ⟨n - 1, by omega⟩
    simp only [m_ticketlinelaw16_PageHolds_l0, m_ticketlinelaw16_PageHolds_l0_b, show ¬ (i : Int) < (l.length : Int) by omega, decide_false, Bool.false_eq_true, if_false, known16, Option.bind_some]
  | succ m ih =>
    intro n N i p hN hm hn L
    obtain ⟨n, rfl⟩ : ∃ q, n = q + 1 := ⟨n - 1, by omega⟩
    have hi : i < l.length := by omega
    have hwa := hw _ (List.getElem_mem hi)
    have hga := GA_get hi
    rw [← hga] at hwa
    obtain ⟨hv, hsr⟩ := srtB_spec L.srt
    have hlp : (pairsS p).length = count p := pairsTo_length _ _
    obtain ⟨hc, hc9⟩ := count_le L.page hv
    have H : ∀ q, Leaf q → m_ticketlinelaw16_PageHolds_l0 N n l ((i + 1 : Nat) : Int) q (pairsS q) = some true := fun q q1 => ih n N (i + 1) q hN (by omega) (by omega) q1
    simp only [m_ticketlinelaw16_PageHolds_l0, m_ticketlinelaw16_PageHolds_l0_b, show (i : Int) < (l.length : Int) by omega, decide_true, if_true, Int.natCast_nonneg, rd_GA, known16, Option.bind_some]
    by_cases c1 : ((GA l i).2.2.2.1.size : Int) < 1
    · simp only [c1, decide_true, if_true]
    by_cases c2 : ((GA l i).2.2.2.1.size : Int) > 24
    · simp only [c1, c2, decide_true, decide_false, if_true, Bool.false_eq_true, if_false]
    by_cases c3 : ((GA l i).2.2.2.2.1.size : Int) > 40
    · simp only [c1, c2, c3, decide_true, decide_false, if_true, Bool.false_eq_true, if_false]
    simp only [c1, c2, c3, decide_false, Bool.false_eq_true, if_false]
    have plain := holds16_step (i := i) (by omega) L H hN (GA l i).1 (GA l i).2.1 (GA l i).2.2.1 (key := (GA l i).2.2.2.1) (v := (GA l i).2.2.2.2.1) (by omega) (by omega) (by omega)
    by_cases ho : (GA l i).2.1 = true
    · simp only [ho, if_true]
      by_cases c4 : ((pairsS p).length : Int) > 0
      · have w1 : IntKind.i64.wrap (GA l i).2.2.1 = (GA l i).2.2.1 := wI (by omega) (by omega)
        have tm : Int.tmod (GA l i).2.2.1 ((pairsS p).length : Int) = (GA l i).2.2.1 % ((pairsS p).length : Int) := Int.tmod_eq_emod_of_nonneg hwa.1
        have m0 : 0 ≤ (GA l i).2.2.1 % ((pairsS p).length : Int) := Int.emod_nonneg _ (by omega)
        have m1 : (GA l i).2.2.1 % ((pairsS p).length : Int) < ((pairsS p).length : Int) := Int.emod_lt_of_pos _ (by omega)
        obtain ⟨k, hk⟩ : ∃ k : Nat, (GA l i).2.2.1 % ((pairsS p).length : Int) = (k : Int) := ⟨((GA l i).2.2.1 % ((pairsS p).length : Int)).toNat, by omega⟩
        rw [hk] at m1 tm
        have hgp := GP_pairs (p := p) (i := (k : Int)) (by omega) (by omega)
        have hal := valid_allowed L.page hv (i := k) (by omega)
        obtain ⟨b1, b2, b3, b4⟩ := allowed_spec hal
        have hne : (pairOf p k).1 ≠ eB := fun e => b1 ⟨e, .inl (by rw [L.kind]; rfl)⟩
        have step := holds16_step (i := i) (by omega) L H hN (GA l i).1 true (GA l i).2.2.1 (key := (pairOf p k).1) (v := (GA l i).2.2.2.2.1) (size_pos hne) b3 (by omega)
        simp only [c4, decide_true, if_true, show ((pairsS p).length : Int) ≠ 0 by omega, ne_eq, not_false_eq_true, w1, tm, Int.natCast_nonneg, m1, rd_GP, hgp, step]
      · rw [ho] at plain; simp only [c4, decide_false, Bool.false_eq_true, if_false, plain]
    · have ho' : (GA l i).2.1 = false := by simpa using ho
      rw [ho'] at plain
      simp only [ho', Bool.false_eq_true, if_false, plain]
theorem pageHolds_true {x : Pln} (h : PlnOK x) {l : List Act16} (hw : ∀ a, a ∈ l → 0 ≤ a.2.2.1 ∧ a.2.2.1 < 256) : m_ticketlinelaw16_PageHolds x l = some true := by
  obtain ⟨p, u, h1, hp, h3, h4⟩ := plan_used h
  unfold m_ticketlinelaw16_PageHolds m_ticketlinelaw16_PageHolds_a
  rw [h4]
  simp only [Option.bind_some, known16]
  cases hc : (u && validB p) with
  | false => simp only [Bool.not_false, if_true]
  | true =>
    simp only [Bool.and_eq_true] at hc
    by_cases c0 : G p 8 = 1
    · have c0' : (G p 8 != 1) = false := by rw [c0]; rfl
      by_cases c1 : (l.length : Int) > 30
      · simp only [Bool.not_true, Bool.false_eq_true, if_false, rd_G, c0', c1, decide_true, if_true]
      cases hs : srtB p with
      | true =>
        have hb : badS p = 0 := by have := badS_zero (p := p); rw [hs] at this; simpa using this
        simp only [Bool.not_true, Bool.false_eq_true, if_false, rd_G, c0', c1, decide_false, ref15_Bad hp, hb, bne_self_eq_false, Option.bind_some, ref_Pairs hp hc.2]
        exact holds16_l0 (by omega) hw l.length FUEL FUEL 0 p (by have := FUEL_big; omega) (by omega) (by have := FUEL_big; omega) ⟨hp, hs, c0⟩
      | false =>
        simp only [Bool.not_true, Bool.false_eq_true, if_false, rd_G, c0', c1, decide_false, ref15_Bad hp, badS_bne hs, Option.bind_some, if_true]
    · have c0' : (G p 8 != 1) = true := by simpa using c0
      simp only [Bool.not_true, Bool.false_eq_true, if_false, rd_G, c0', if_true]
end Go.Ev.L
