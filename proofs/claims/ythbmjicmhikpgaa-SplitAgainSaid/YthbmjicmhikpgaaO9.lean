/- Law 17: halves of halves. -/
import Derived.Test.YthbmjicmhikpgaaO8
import Derived.Test.YthbmjicmhikpgaaPgB
set_option linter.unusedVariables false
set_option linter.unusedSimpArgs false
set_option maxRecDepth 10000
namespace Go.Ev.L
open Go Go.Ev Go.Ev.M

theorem again_l0 : ∀ (m fuel N n : Nat) (l : List (List Int)), n + m = 500 → m < fuel → l.length ≤ n → (∀ p, p ∈ l → PageOK p) → m_ticketlinelaw17_SplitAgain_l0 N fuel n l = some true := by
  intro m
  induction m with
  | zero =>
    intro fuel N n l hm hf hl hp
    obtain ⟨q, rfl⟩ : ∃ q, fuel = q + 1 := ⟨fuel - 1, by omega⟩
    have c2 : ¬ (n : Int) < 500 := by omega
    by_cases c1 : (l.length : Int) > 0
    · simp only [m_ticketlinelaw17_SplitAgain_l0, m_ticketlinelaw17_SplitAgain_l0_b, c1, c2, decide_true, if_true, decide_false, Bool.false_eq_true, if_false, known17, Option.bind_some]
    · simp only [m_ticketlinelaw17_SplitAgain_l0, m_ticketlinelaw17_SplitAgain_l0_b, c1, decide_false, Bool.false_eq_true, if_false, known17, Option.bind_some]
  | succ m ih =>
    intro fuel N n l hm hf hl hp
    obtain ⟨q, rfl⟩ : ∃ q, fuel = q + 1 := ⟨fuel - 1, by omega⟩
    have c2 : (n : Int) < 500 := by omega
    cases l with
    | nil => simp only [m_ticketlinelaw17_SplitAgain_l0, m_ticketlinelaw17_SplitAgain_l0_b, List.length_nil, show ¬ ((0 : Nat) : Int) > 0 by omega, decide_false, Bool.false_eq_true, if_false, known17, Option.bind_some]
    | cons p l =>
      have hp0 := hp p (List.mem_cons_self ..)
      have c1 : ((p :: l).length : Int) > 0 := by rw [List.length_cons]; omega
      have c3 : (0 : Int) < ((p :: l).length : Int) := c1
      have hr : rd (.arr 128 (.int .u64)) (p :: l) (0 : Int) = p := rfl
      have hS := splits17 (a := (splitR p n).1) (b := (splitR p n).2.1) (k := (splitR p n).2.2.1) (e := (splitR p n).2.2.2) (split_Split hp0 n)
      have hw : win (p :: l) 1 (((p :: l).length : Int) - 1) = l := by
        unfold win
        rw [show (1 : Int).toNat = 1 from rfl, List.drop_succ_cons, List.drop_zero, List.take_of_length_le (by rw [List.length_cons]; omega)]
      have w1 : IntKind.i64.wrap ((n : Int) + 1) = ((n + 1 : Nat) : Int) := by rw [wI (by omega) (by omega)]; omega
      rw [List.length_cons] at hl
      simp only [m_ticketlinelaw17_SplitAgain_l0, m_ticketlinelaw17_SplitAgain_l0_b, c1, c2, c3, decide_true, if_true, hr, ref17_Split hp0, Option.bind_some, hS, Bool.not_true, Bool.false_eq_true, if_false, Int.natCast_nonneg, Int.le_refl, show (1 : Int) ≤ ((p :: l).length : Int) by omega, hw, w1]
      rcases splitR_spec hp0 n with ⟨e1, _⟩ | ⟨e1, _, _, _, H⟩
      · have e1' : ((splitR p n).2.2.2 == 0) = false := by simpa using e1
        simp only [e1', Bool.false_eq_true, if_false]
        exact ih q N (n + 1) l (by omega) (by omega) (by omega) fun x hx => hp x (List.mem_cons_of_mem _ hx)
      · have hf : fits (l.length + [(splitR p n).1, (splitR p n).2.1].length) 1024 := by
          unfold fits
          rw [show [(splitR p n).1, (splitR p n).2.1].length = 2 from rfl]; omega
        simp only [e1, beq_self_eq_true, if_true, hf]
        refine ih q N (n + 1) _ (by omega) (by omega) (by rw [List.length_append]; show l.length + 2 ≤ _; omega) fun x hx => ?_
        rcases List.mem_append.1 hx with hx | hx
        · exact hp x (List.mem_cons_of_mem _ hx)
        · simp only [List.mem_cons, List.not_mem_nil, or_false] at hx
          rcases hx with rfl | rfl
          · exact H.pa
          · exact H.pb
theorem splitAgain_true {x : Pln} (h : PlnOK x) {n : Int} (hn : 0 ≤ n ∧ n < 65536) : m_ticketlinelaw17_SplitAgain x n = some true := by
  obtain ⟨p, u, h1, h2, h3, h4⟩ := plan_used h
  unfold m_ticketlinelaw17_SplitAgain m_ticketlinelaw17_SplitAgain_a
  rw [h4]
  simp only [Option.bind_some, known17]
  cases hc : (u && validB p) with
  | false => simp only [Bool.not_false, if_true]
  | true =>
    by_cases c1 : n < 1
    · simp only [Bool.not_true, Bool.false_eq_true, if_false, c1, decide_true, if_true]
    by_cases c2 : n > 400
    · simp only [Bool.not_true, Bool.false_eq_true, if_false, c1, c2, decide_true, decide_false, if_true]
    have w1 : IntKind.i64.wrap n = ((n.toNat : Nat) : Int) := by rw [wI (by omega) (by omega)]; omega
    simp only [Bool.not_true, Bool.false_eq_true, if_false, c1, c2, decide_false, w1]
    refine again_l0 (500 - n.toNat) FUEL FUEL n.toNat [p] (by omega) (by have := FUEL_big; omega) (by show 1 ≤ _; omega) fun x hx => ?_
    rw [List.mem_singleton] at hx; subst hx; exact h2
end Go.Ev.L
