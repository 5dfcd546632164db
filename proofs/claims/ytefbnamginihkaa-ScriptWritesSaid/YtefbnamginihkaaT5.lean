/- Seat 04: the reference's shortest bytes. -/
import Derived.Test.YtefbnamginihkaaT4
set_option linter.unusedVariables false
set_option linter.unusedSimpArgs false
set_option maxRecDepth 10000
namespace Go.Ev.L.T4
open Go Go.Ev Go.Ev.M Go.Ev.L

def leastP (f : Nat → Bool) : Nat → Nat → Option Nat
  | 0, _ => none
  | m + 1, i => if f i = true then some i else leastP f m (i + 1)
theorem leastP_some {f : Nat → Bool} : ∀ {m i k : Nat}, i ≤ k → k < i + m → f k = true → (∀ j, i ≤ j → j < k → f j = false) → leastP f m i = some k := by
  intro m
  induction m with
  | zero => intro i k h1 h2; omega
  | succ m ih =>
    intro i k h1 h2 h3 h4
    unfold leastP
    by_cases c : i = k
    · subst c; rw [if_pos h3]
    · rw [if_neg (by rw [h4 i (by omega) (by omega)]; decide)]
      exact ih (by omega) (by omega) h3 fun j h5 h6 => h4 j (by omega) h6
theorem leastP_none {f : Nat → Bool} : ∀ {m i : Nat}, (∀ j, i ≤ j → j < i + m → f j = false) → leastP f m i = none := by
  intro m
  induction m with
  | zero => intro i h; rfl
  | succ m ih =>
    intro i h
    unfold leastP
    rw [if_neg (by rw [h i (by omega) (by omega)]; decide)]
    exact ih fun j h1 h2 => h j (by omega) (by omega)
def partB (k th n v : Int) (key val old : ByteArray) (tk : Int) (part : Int) (i : Nat) : Bool :=
  if part = 107 then decide (keyS i = key) else if part = 111 then decide (valS i = old) else if part = 118 then decide (valS i = val) else decide ((i : Int) % 32 + 1 = n)
theorem least_l0 (k th n v : Int) (key val old : ByteArray) (tk part : Int) : ∀ (m i q N : Nat), i + m = 256 → m < q →
    m_ticketlineref04_least_l0 N q part i k th n v key val old tk = some (match leastP (partB k th n v key val old tk part) m i with | some a => ((a : Int), true) | none => (0, false)) := by
  intro m
  induction m with
  | zero =>
    intro i q N hm hq
    obtain ⟨q, rfl⟩ : ∃ p, q = p + 1 := ⟨q - 1, by omega⟩
    simp only [m_ticketlineref04_least_l0, m_ticketlineref04_least_l0_b, show ¬ (i : Int) < 256 by omega, decide_false, Bool.false_eq_true, if_false, leastP]
  | succ m ih =>
    intro i q N hm hq
    obtain ⟨q, rfl⟩ : ∃ p, q = p + 1 := ⟨q - 1, by omega⟩
    have w : IntKind.i64.wrap ((i : Int) + 1) = ((i + 1 : Nat) : Int) := by rw [wI (by omega) (by omega)]; omega
    have w2 : IntKind.u8.wrap (i : Int) = i := wB (by omega) (by omega)
    have w3 : IntKind.i64.wrap (Int.tmod (i : Int) 32 + 1) = (i : Int) % 32 + 1 := by rw [Int.tmod_eq_emod_of_nonneg (by omega), wI (by omega) (by omega)]
    have hk := ref04_Key (n := (i : Int)) (by omega)
    have hv := ref04_Value (n := (i : Int)) (by omega)
    have I := ih (i + 1) q N (by omega) (by omega)
    simp only [m_ticketlineref04_least_l0, m_ticketlineref04_least_l0_b, show (i : Int) < 256 by omega, decide_true, if_true, hk, hv, Option.bind_some, w, w2, w3, I, leastP]
    unfold partB
    by_cases c1 : part = 107
    · subst c1
      simp only [beq_self_eq_true, if_true]
      by_cases d : keyS (i : Int) = key
      · have d2 : strEq (keyS i) key = true := strEq_iff.2 d
        simp only [d, strEq_refl', beq_self_eq_true, decide_true, if_true]
      · have d2 : strEq (keyS i) key = false := strEq_false d
        simp only [d2, decide_eq_false d, Bool.false_eq_true, if_false]
    have c1' : (part == 107) = false := by simp [c1]
    by_cases c2 : part = 111
    · subst c2
      simp only [c1', Bool.false_eq_true, if_false, beq_self_eq_true, if_true, c1]
      by_cases d : valS (i : Int) = old
      · have d2 : strEq (valS i) old = true := strEq_iff.2 d
        simp only [d, strEq_refl', beq_self_eq_true, decide_true, if_true]
      · have d2 : strEq (valS i) old = false := strEq_false d
        simp only [d2, decide_eq_false d, Bool.false_eq_true, if_false]
    have c2' : (part == 111) = false := by simp [c2]
    by_cases c3 : part = 118
    · subst c3
      simp only [c1', c2', Bool.false_eq_true, if_false, beq_self_eq_true, if_true, c1, c2]
      by_cases d : valS (i : Int) = val
      · have d2 : strEq (valS i) val = true := strEq_iff.2 d
        simp only [d, strEq_refl', beq_self_eq_true, decide_true, if_true]
      · have d2 : strEq (valS i) val = false := strEq_false d
        simp only [d2, decide_eq_false d, Bool.false_eq_true, if_false]
    have c3' : (part == 118) = false := by simp [c3]
    simp only [c1', c2', c3', Bool.false_eq_true, if_false, c1, c2, c3]
    by_cases d : (i : Int) % 32 + 1 = n
    · have d2 : ((i : Int) % 32 + 1 == n) = true := by simp [d]
      simp only [d, strEq_refl', beq_self_eq_true, decide_true, if_true]
    · have d2 : ((i : Int) % 32 + 1 == n) = false := by simp [d]
      simp only [d2, decide_eq_false d, Bool.false_eq_true, if_false]
theorem leastP_valS (s : ByteArray) : ∀ (m i : Nat), leastP (fun i => decide (valS i = s)) m i = leastV s m i := by
  intro m
  induction m with
  | zero => intro i; rfl
  | succ m ih =>
    intro i
    unfold leastP leastV
    rw [ih]
    by_cases c : valS (i : Int) = s <;> simp [c]
theorem ref04_least (k th n v : Int) (key val old : ByteArray) (tk part : Int) : m_ticketlineref04_least (k, th, n, v, key, val, old, tk, ()) part = some (match leastP (partB k th n v key val old tk part) 256 0 with | some a => ((a : Int), true) | none => (0, false)) :=
  least_l0 k th n v key val old tk part 256 0 FUEL FUEL (by omega) (by have := FUEL_big; omega)
theorem least_k (k th n v : Int) (key val old : ByteArray) (tk : Int) : m_ticketlineref04_least (k, th, n, v, key, val, old, tk, ()) 107 = some (if keyedS key then (keyN key, true) else (0, false)) := by
  rw [ref04_least]
  by_cases c : keyedS key
  · have hr := keyN_range key
    have e : leastP (partB k th n v key val old tk 107) 256 0 = some (keyN key).toNat := by
      refine leastP_some (by omega) (by omega) ?_ fun j h1 h2 => ?_
      · unfold partB
        rw [if_pos rfl, Int.toNat_of_nonneg hr.1]
        exact decide_eq_true c
      · unfold partB
        rw [if_pos rfl]
        refine decide_eq_false fun e => ?_
        have := keyS_inj (n := (j : Int)) (m := keyN key) (by omega) hr (by rw [e]; exact c.symm)
        omega
    rw [e, if_pos c]
    simp only [Int.toNat_of_nonneg hr.1]
  · have e : leastP (partB k th n v key val old tk 107) 256 0 = none := by
      refine leastP_none fun j h1 h2 => ?_
      unfold partB
      rw [if_pos rfl]
      exact decide_eq_false fun e => c (keyedS_iff.2 ⟨(j : Int), by omega, e⟩)
    rw [e, if_neg c]
theorem least_o (k th n v : Int) (key val old : ByteArray) (tk : Int) : m_ticketlineref04_least (k, th, n, v, key, val, old, tk, ()) 111 = some (match valuedS old with | some a => ((a : Int), true) | none => (0, false)) := by
  rw [ref04_least]
  have : partB k th n v key val old tk 111 = fun i : Nat => decide (valS i = old) := by funext i; unfold partB; rw [if_neg (by decide), if_pos rfl]
  rw [this, leastP_valS]; rfl
theorem least_v (k th n v : Int) (key val old : ByteArray) (tk : Int) : m_ticketlineref04_least (k, th, n, v, key, val, old, tk, ()) 118 = some (match valuedS val with | some a => ((a : Int), true) | none => (0, false)) := by
  rw [ref04_least]
  have : partB k th n v key val old tk 118 = fun i : Nat => decide (valS i = val) := by funext i; unfold partB; rw [if_neg (by decide), if_neg (by decide), if_pos rfl]
  rw [this, leastP_valS]; rfl
theorem least_n (k th n v : Int) (key val old : ByteArray) (tk : Int) : m_ticketlineref04_least (k, th, n, v, key, val, old, tk, ()) 110 = some (if 1 ≤ n ∧ n ≤ 32 then (n - 1, true) else (0, false)) := by
  rw [ref04_least]
  have hp : ∀ i : Nat, partB k th n v key val old tk 110 i = decide ((i : Int) % 32 + 1 = n) := fun i => by unfold partB; rw [if_neg (by decide), if_neg (by decide), if_neg (by decide)]
  by_cases c : 1 ≤ n ∧ n ≤ 32
  · have e : leastP (partB k th n v key val old tk 110) 256 0 = some (n - 1).toNat := by
      refine leastP_some (by omega) (by omega) ?_ fun j h1 h2 => ?_
      · rw [hp]; exact decide_eq_true (by omega)
      · rw [hp]; exact decide_eq_false (by omega)
    rw [e, if_pos c]
    simp only [Int.toNat_of_nonneg (show 0 ≤ n - 1 by omega)]
  · have e : leastP (partB k th n v key val old tk 110) 256 0 = none := by
      refine leastP_none fun j h1 h2 => ?_
      rw [hp]; exact decide_eq_false (by omega)
    rw [e, if_neg c]
theorem RB2 {x p : Int} (hx : 0 ≤ x ∧ x < 256) (hp : 0 ≤ p ∧ p < 256) : RB [x, p] := by
  intro y hy; simp only [List.mem_cons, List.not_mem_nil, or_false] at hy; rcases hy with rfl | rfl <;> assumption
theorem RB.append {a b : List Int} (h : RB a) (h' : RB b) : RB (a ++ b) := fun x hx => (List.mem_append.1 hx).elim (h x) (h' x)
theorem fin_again {b : List Int} (hb : RB b) (o : Op4) : (Option.bind (m_ticketlineref04_Next b 64) fun r => if Ty.beq tOp r.1 o = true then some (b, (r.2 == (b.length : Int))) else some (b, false)) = some (b, decide ((nextS b 64).1 = o ∧ (nextS b 64).2 = b.length)) := by
  have hN := ref04_Next hb (t := 64) (by omega)
  rw [hN, Option.bind_some]
  by_cases c : (nextS b 64).1 = o
  · have c2 : Ty.beq tOp (nextS b 64).1 o = true := op_beq.2 c
    by_cases d : (nextS b 64).2 = b.length
    · simp only [c, op_beq_refl, if_true, d, beq_self_eq_true, and_self, decide_true]
    · have d2 : (((nextS b 64).2 : Int) == (b.length : Int)) = false := by simp; omega
      simp only [c2, if_true, d2, d, and_false, decide_false]
  · have c2 : Ty.beq tOp (nextS b 64).1 o = false := op_beq_false c
    simp only [c2, Bool.false_eq_true, if_false, c, false_and, decide_false]
theorem fin_other {b : List Int} (hb : RB b) (N n : Nat) (hn : 1 ≤ n) (s0 : Int → Int → Int → Int → Int → ByteArray → ByteArray → ByteArray → Int → Option (List Int × Bool)) (s1 : Int → Int → Int → Int → Int → Int → ByteArray → ByteArray → ByteArray → Int → Option (List Int × Bool))
    (s : ByteArray) (k th m v : Int) (key val old : ByteArray) (tk : Int) (a1 a2 a3 a4 : Int) (z1 z2 z3 : ByteArray) (a5 : Int) (h : a1 ≠ 3) :
    m_ticketlineref04_Bytes_l2 N s0 s1 n s 0 k th m v key val old tk a1 a2 a3 a4 z1 z2 z3 a5 b = some (b, decide ((nextS b 64).1 = (k, th, m, v, key, val, old, tk, ()) ∧ (nextS b 64).2 = b.length)) := by
  obtain ⟨n, rfl⟩ : ∃ q, n = q + 1 := ⟨n - 1, by omega⟩
  have c : (a1 == 3) = false := by simp [h]
  simp only [m_ticketlineref04_Bytes_l2, m_ticketlineref04_Bytes_l2_b, c, Bool.false_eq_true, if_false]
  exact fin_again hb _
theorem at_cons (a : Int) (l : List Int) (i : Nat) : at' (a :: l) (i + 1) = at' l i := by unfold at'; rfl
theorem at_zero (a : Int) (l : List Int) : at' (a :: l) 0 = a := rfl
theorem next_req {x p : Int} (hx : x % 8 = 5) (l : List Int) (t : Int) : nextS (x :: p :: l) t = startS (x / 8 % t) p (at' l 0) (at' l 1) (at' l 2) := by
  unfold nextS opS
  rw [at_zero, if_neg (by omega), if_neg (by omega), if_pos (by omega)]
  rfl
theorem leastV_range {s : ByteArray} {a : Nat} (h : valuedS s = some a) : (a : Int) < 256 ∧ valS a = s := by
  have := leastV_spec h
  exact ⟨by omega, this.2.2⟩
theorem says_if {B l : List Int} {D C : Prop} [Decidable D] [Decidable C] (h : D ↔ C) (hl : (B ++ l).length ≤ 5 := by simp) : Says (some (B ++ l, decide D)) (Option.map (fun l => B ++ l) (if C then some l else none)) := by
  by_cases c : C
  · rw [if_pos c, decide_eq_true (h.2 c)]; exact says_some _ hl
  · rw [if_neg c, decide_eq_false (fun d => c (h.1 d))]; exact says_none _ hl
theorem fin_req (N n : Nat) (hn : 4 ≤ n) (s0 : Int → Int → Int → Int → Int → ByteArray → ByteArray → ByteArray → Int → Option (List Int × Bool)) (s1 : Int → Int → Int → Int → Int → Int → ByteArray → ByteArray → ByteArray → Int → Option (List Int × Bool))
    (th m v : Int) (key val old : ByteArray) (tk : Int) (a2 a3 a4 : Int) (z1 z2 z3 : ByteArray) (a5 : Int) (hth : 0 ≤ th ∧ th < 32) (htk : 0 ≤ tk ∧ tk < 32) (hv : 1 ≤ v ∧ v ≤ 8) :
    Says (m_ticketlineref04_Bytes_l2 N s0 s1 n (strOf (needS v)) 0 3 th m v key val old tk 3 a2 a3 a4 z1 z2 z3 a5 [8 * th + 5, v - 1 + 8 * tk]) ((reqS v m key val old).map fun l => [8 * th + 5, v - 1 + 8 * tk] ++ l) := by
  obtain ⟨n, rfl⟩ : ∃ q, n = q + 4 := ⟨n - 4, by omega⟩
  have hB : RB [8 * th + 5, v - 1 + 8 * tk] := RB2 (by omega) (by omega)
  have hx : (8 * th + 5) % 8 = 5 := by omega
  have ht : (8 * th + 5) / 8 % 64 = th := by omega
  have hpv : (v - 1 + 8 * tk) % 8 + 1 = v := by omega
  have hpk : (v - 1 + 8 * tk) / 8 = tk := by omega
  have hK := least_k 3 th m v key val old tk
  have hO := least_o 3 th m v key val old tk
  have hV := least_v 3 th m v key val old tk
  have hN := least_n 3 th m v key val old tk
  have kr := keyN_range key
  have hA := fun (l : List Int) (hl : RB l) => fin_again (hB.append hl) (3, th, m, v, key, val, old, tk, ())
  have hne := fun (l : List Int) => next_req hx l 64 (p := v - 1 + 8 * tk)
  rw [ht] at hne
  have F1 : fits (List.length [8 * th + 5, v - 1 + 8 * tk] + 1) 1 := fitsS (by simp)
  have r1 : ∀ {a : Int}, 0 ≤ a ∧ a < 256 → RB [a] := fun h y hy => by simp only [List.mem_cons, List.not_mem_nil, or_false] at hy; rw [hy]; exact h
  have hv' : v = 1 ∨ v = 2 ∨ v = 3 ∨ v = 4 ∨ v = 5 ∨ v = 6 ∨ v = 7 ∨ v = 8 := by omega
  by_cases v78 : v = 7 ∨ v = 8
  · unfold reqS
    rw [if_pos v78]
    have sz : (strOf (needS v)).size = 0 := by rcases v78 with rfl | rfl <;> rfl
    have e := hA [] (fun y hy => by simp at hy)
    have hs : nextS ([8 * th + 5, v - 1 + 8 * tk] ++ []) 64 = ((3, th, 0, v, eB, eB, eB, tk, ()), 2) := by
      refine (hne []).trans ?_
      unfold startS
      dsimp only
      rw [hpv, hpk, if_neg (by omega), if_neg (by omega), if_neg (by omega), if_neg (by omega)]
    rw [hs, List.append_nil] at e
    simp only [m_ticketlineref04_Bytes_l2, m_ticketlineref04_Bytes_l2_b, beq_self_eq_true, if_true, sz, show ¬ (0 : Int) < ((0 : Nat) : Int) by omega, decide_false, Bool.false_eq_true, if_false]
    rw [e]
    by_cases c : m = 0 ∧ key = eB ∧ val = eB ∧ old = eB
    · obtain ⟨rfl, rfl, rfl, rfl⟩ := c
      rw [if_pos (show (0 : Int) = 0 ∧ eB = eB ∧ eB = eB ∧ eB = eB from ⟨rfl, rfl, rfl, rfl⟩), decide_eq_true (by exact ⟨rfl, rfl⟩)]
      exact says_some _
    · rw [if_neg c, decide_eq_false (fun h => c (by simp only [Prod.mk.injEq] at h; exact ⟨h.1.2.2.1.symm, h.1.2.2.2.2.1.symm, h.1.2.2.2.2.2.1.symm, h.1.2.2.2.2.2.2.1.symm⟩))]
      exact says_none _
  have b0 : bt (strOf (needS v)) 0 = 107 := by rcases hv' with rfl | rfl | rfl | rfl | rfl | rfl | rfl | rfl <;> first | rfl | exact absurd (by decide) v78
  have sz0 : (0 : Int) < ((strOf (needS v)).size : Int) := by rcases hv' with rfl | rfl | rfl | rfl | rfl | rfl | rfl | rfl <;> first | decide | exact absurd (by decide) v78
  by_cases hk : keyedS key
  case neg =>
    rw [show reqS v m key val old = none by unfold reqS; rw [if_neg v78, if_neg hk]]
    rw [if_neg hk] at hK
    simp only [m_ticketlineref04_Bytes_l2, m_ticketlineref04_Bytes_l2_b, beq_self_eq_true, if_true, sz0, decide_true, Int.le_refl, b0, hK, Option.bind_some, Bool.not_false]
    exact says_none _
  rw [if_pos hk] at hK
  have hkk : keyS (keyN key) = key := hk
  have w1 : IntKind.i64.wrap ((0 : Int) + 1) = 1 := by decide
  have w2 : IntKind.i64.wrap ((1 : Int) + 1) = 2 := by decide
  have w3 : IntKind.i64.wrap ((2 : Int) + 1) = 3 := by decide
  have F1 : fits (List.length [8 * th + 5, v - 1 + 8 * tk] + List.length [keyN key]) 1 := fitsS (by simp)
  have F2 : ∀ a : Int, fits (List.length ([8 * th + 5, v - 1 + 8 * tk] ++ [keyN key]) + List.length [a]) 1 := fun a => fitsS (by simp)
  have F3 : ∀ a b : Int, fits (List.length ([8 * th + 5, v - 1 + 8 * tk] ++ [keyN key] ++ [a]) + List.length [b]) 1 := fun a b => fitsS (by simp)
  rcases hv' with rfl | rfl | rfl | rfl | rfl | rfl | rfl | rfl
  case inr.inr.inr.inr.inr.inr.inl => exact absurd (by decide) v78
  case inr.inr.inr.inr.inr.inr.inr => exact absurd (by decide) v78
  case inl =>
    have sz : (strOf (needS 1)).size = 1 := rfl
    have e := hA [keyN key] (r1 kr)
    have hs : nextS ([8 * th + 5, 1 - 1 + 8 * tk] ++ [keyN key]) 64 = ((3, th, 0, 1, key, eB, eB, tk, ()), 3) := by
      refine (hne [keyN key]).trans ?_
      unfold startS
      dsimp only
      rw [hpv, hpk, if_pos (by omega), at_zero, hkk]
    have hr : reqS 1 m key val old = if m = 0 ∧ old = eB ∧ val = eB then some [keyN key] else none := by
      unfold reqS
      by_cases a : m = 0 <;> by_cases b : old = eB <;> by_cases c : val = eB <;> simp [hk, a, b, c]
    rw [hs] at e
    rw [hr]
    simp only [m_ticketlineref04_Bytes_l2, m_ticketlineref04_Bytes_l2_b, beq_self_eq_true, if_true, sz, show (0 : Int) < ((1 : Nat) : Int) by omega, show ¬ (1 : Int) < ((1 : Nat) : Int) by omega, decide_true, decide_false, Bool.false_eq_true, if_false, Int.le_refl, b0, hK, Option.bind_some, Bool.not_true, if_pos F1, w1, e]
    refine says_if ⟨fun h => ?_, fun ⟨a, b, c⟩ => ?_⟩
    · simp only [Prod.mk.injEq] at h; exact ⟨h.1.2.2.1.symm, h.1.2.2.2.2.2.2.1.symm, h.1.2.2.2.2.2.1.symm⟩
    · subst a; subst b; subst c; exact ⟨rfl, rfl⟩
  case inr.inl =>
    have sz : (strOf (needS 2)).size = 2 := rfl
    have b1 : bt (strOf (needS 2)) 1 = 118 := rfl
    cases ev : valuedS val with
    | none =>
      rw [ev] at hV
      have hr : reqS 2 m key val old = none := by
        unfold reqS
        by_cases a : m = 0 <;> by_cases b : old = eB <;> simp [hk, a, b, ev]
      rw [hr]
      simp only [m_ticketlineref04_Bytes_l2, m_ticketlineref04_Bytes_l2_b, beq_self_eq_true, if_true, sz, show (0 : Int) < ((2 : Nat) : Int) by omega, show (1 : Int) < ((2 : Nat) : Int) by omega, show (0 : Int) ≤ 1 by omega, decide_true, Bool.false_eq_true, if_false, Int.le_refl, b0, b1, hK, hV, Option.bind_some, Bool.not_true, Bool.not_false, if_pos F1, w1]
      exact says_none _
    | some q =>
      obtain ⟨q1, q2⟩ := leastV_range ev
      rw [ev] at hV
      have e := hA ([keyN key] ++ [(q : Int)]) ((r1 kr).append (r1 ⟨by omega, q1⟩))
      have hs : nextS ([8 * th + 5, 2 - 1 + 8 * tk] ++ ([keyN key] ++ [(q : Int)])) 64 = ((3, th, 0, 2, key, val, eB, tk, ()), 4) := by
        refine (hne [keyN key, q]).trans ?_
        unfold startS
        dsimp only
        rw [hpv, hpk, if_neg (by omega), if_pos (by omega), at_zero, at_cons, at_zero, hkk, q2]
      have hr : reqS 2 m key val old = if m = 0 ∧ old = eB then some ([keyN key] ++ [(q : Int)]) else none := by
        unfold reqS
        by_cases a : m = 0 <;> by_cases b : old = eB <;> simp [hk, a, b, ev]
      rw [hs] at e
      rw [← List.append_assoc] at e
      rw [hr]
      simp only [m_ticketlineref04_Bytes_l2, m_ticketlineref04_Bytes_l2_b, beq_self_eq_true, if_true, sz, show (0 : Int) < ((2 : Nat) : Int) by omega, show (1 : Int) < ((2 : Nat) : Int) by omega, show ¬ (2 : Int) < ((2 : Nat) : Int) by omega, show (0 : Int) ≤ 1 by omega, decide_true, decide_false, Bool.false_eq_true, if_false, Int.le_refl, b0, b1, hK, hV, Option.bind_some, Bool.not_true, if_pos F1, if_pos (F2 _), w1, w2, e]
      rw [List.append_assoc]
      refine says_if ⟨fun h => ?_, fun ⟨a, b⟩ => ?_⟩
      · simp only [Prod.mk.injEq] at h; exact ⟨h.1.2.2.1.symm, h.1.2.2.2.2.2.2.1.symm⟩
      · subst a; subst b; exact ⟨rfl, rfl⟩
  case inr.inr.inl =>
    have sz : (strOf (needS 3)).size = 2 := rfl
    have b1 : bt (strOf (needS 3)) 1 = 118 := rfl
    cases ev : valuedS val with
    | none =>
      rw [ev] at hV
      have hr : reqS 3 m key val old = none := by
        unfold reqS
        by_cases a : m = 0 <;> by_cases b : old = eB <;> simp [hk, a, b, ev]
      rw [hr]
      simp only [m_ticketlineref04_Bytes_l2, m_ticketlineref04_Bytes_l2_b, beq_self_eq_true, if_true, sz, show (0 : Int) < ((2 : Nat) : Int) by omega, show (1 : Int) < ((2 : Nat) : Int) by omega, show (0 : Int) ≤ 1 by omega, decide_true, Bool.false_eq_true, if_false, Int.le_refl, b0, b1, hK, hV, Option.bind_some, Bool.not_true, Bool.not_false, if_pos F1, w1]
      exact says_none _
    | some q =>
      obtain ⟨q1, q2⟩ := leastV_range ev
      rw [ev] at hV
      have e := hA ([keyN key] ++ [(q : Int)]) ((r1 kr).append (r1 ⟨by omega, q1⟩))
      have hs : nextS ([8 * th + 5, 3 - 1 + 8 * tk] ++ ([keyN key] ++ [(q : Int)])) 64 = ((3, th, 0, 3, key, val, eB, tk, ()), 4) := by
        refine (hne [keyN key, q]).trans ?_
        unfold startS
        dsimp only
        rw [hpv, hpk, if_neg (by omega), if_pos (by omega), at_zero, at_cons, at_zero, hkk, q2]
      have hr : reqS 3 m key val old = if m = 0 ∧ old = eB then some ([keyN key] ++ [(q : Int)]) else none := by
        unfold reqS
        by_cases a : m = 0 <;> by_cases b : old = eB <;> simp [hk, a, b, ev]
      rw [hs] at e
      rw [← List.append_assoc] at e
      rw [hr]
      simp only [m_ticketlineref04_Bytes_l2, m_ticketlineref04_Bytes_l2_b, beq_self_eq_true, if_true, sz, show (0 : Int) < ((2 : Nat) : Int) by omega, show (1 : Int) < ((2 : Nat) : Int) by omega, show ¬ (2 : Int) < ((2 : Nat) : Int) by omega, show (0 : Int) ≤ 1 by omega, decide_true, decide_false, Bool.false_eq_true, if_false, Int.le_refl, b0, b1, hK, hV, Option.bind_some, Bool.not_true, if_pos F1, if_pos (F2 _), w1, w2, e]
      rw [List.append_assoc]
      refine says_if ⟨fun h => ?_, fun ⟨a, b⟩ => ?_⟩
      · simp only [Prod.mk.injEq] at h; exact ⟨h.1.2.2.1.symm, h.1.2.2.2.2.2.2.1.symm⟩
      · subst a; subst b; exact ⟨rfl, rfl⟩
  case inr.inr.inr.inl =>
    have sz : (strOf (needS 4)).size = 1 := rfl
    have e := hA [keyN key] (r1 kr)
    have hs : nextS ([8 * th + 5, 4 - 1 + 8 * tk] ++ [keyN key]) 64 = ((3, th, 0, 4, key, eB, eB, tk, ()), 3) := by
      refine (hne [keyN key]).trans ?_
      unfold startS
      dsimp only
      rw [hpv, hpk, if_pos (by omega), at_zero, hkk]
    have hr : reqS 4 m key val old = if m = 0 ∧ old = eB ∧ val = eB then some [keyN key] else none := by
      unfold reqS
      by_cases a : m = 0 <;> by_cases b : old = eB <;> by_cases c : val = eB <;> simp [hk, a, b, c]
    rw [hs] at e
    rw [hr]
    simp only [m_ticketlineref04_Bytes_l2, m_ticketlineref04_Bytes_l2_b, beq_self_eq_true, if_true, sz, show (0 : Int) < ((1 : Nat) : Int) by omega, show ¬ (1 : Int) < ((1 : Nat) : Int) by omega, decide_true, decide_false, Bool.false_eq_true, if_false, Int.le_refl, b0, hK, Option.bind_some, Bool.not_true, if_pos F1, w1, e]
    refine says_if ⟨fun h => ?_, fun ⟨a, b, c⟩ => ?_⟩
    · simp only [Prod.mk.injEq] at h; exact ⟨h.1.2.2.1.symm, h.1.2.2.2.2.2.2.1.symm, h.1.2.2.2.2.2.1.symm⟩
    · subst a; subst b; subst c; exact ⟨rfl, rfl⟩
  case inr.inr.inr.inr.inl =>
    have sz : (strOf (needS 5)).size = 3 := rfl
    have b1 : bt (strOf (needS 5)) 1 = 111 := rfl
    have b2 : bt (strOf (needS 5)) 2 = 118 := rfl
    cases eo : valuedS old with
    | none =>
      rw [eo] at hO
      have hr : reqS 5 m key val old = none := by
        unfold reqS
        by_cases a : m = 0 <;> simp [hk, a, eo]
      rw [hr]
      simp only [m_ticketlineref04_Bytes_l2, m_ticketlineref04_Bytes_l2_b, beq_self_eq_true, if_true, sz, show (0 : Int) < ((3 : Nat) : Int) by omega, show (1 : Int) < ((3 : Nat) : Int) by omega, show (0 : Int) ≤ 1 by omega, decide_true, Bool.false_eq_true, if_false, Int.le_refl, b0, b1, hK, hO, Option.bind_some, Bool.not_true, Bool.not_false, if_pos F1, w1]
      exact says_none _
    | some r =>
      obtain ⟨r3, r4⟩ := leastV_range eo
      rw [eo] at hO
      cases ev : valuedS val with
      | none =>
        rw [ev] at hV
        have hr : reqS 5 m key val old = none := by
          unfold reqS
          by_cases a : m = 0 <;> simp [hk, a, eo, ev]
        rw [hr]
        simp only [m_ticketlineref04_Bytes_l2, m_ticketlineref04_Bytes_l2_b, beq_self_eq_true, if_true, sz, show (0 : Int) < ((3 : Nat) : Int) by omega, show (1 : Int) < ((3 : Nat) : Int) by omega, show (2 : Int) < ((3 : Nat) : Int) by omega, show (0 : Int) ≤ 1 by omega, show (0 : Int) ≤ 2 by omega, decide_true, Bool.false_eq_true, if_false, Int.le_refl, b0, b1, b2, hK, hO, hV, Option.bind_some, Bool.not_true, Bool.not_false, if_pos F1, if_pos (F2 _), w1, w2]
        exact says_none _
      | some q =>
        obtain ⟨q1, q2⟩ := leastV_range ev
        rw [ev] at hV
        have e := hA ([keyN key] ++ ([(r : Int)] ++ [(q : Int)])) ((r1 kr).append ((r1 ⟨by omega, r3⟩).append (r1 ⟨by omega, q1⟩)))
        have hs : nextS ([8 * th + 5, 5 - 1 + 8 * tk] ++ ([keyN key] ++ ([(r : Int)] ++ [(q : Int)]))) 64 = ((3, th, 0, 5, key, val, old, tk, ()), 5) := by
          refine (hne [keyN key, r, q]).trans ?_
          unfold startS
          dsimp only
          rw [hpv, hpk, if_neg (by omega), if_neg (by omega), if_pos (by omega), at_zero, at_cons, at_cons, at_zero, at_cons, at_zero, hkk, q2, r4]
        have hr : reqS 5 m key val old = if m = 0 then some ([keyN key] ++ ([(r : Int)] ++ [(q : Int)])) else none := by
          unfold reqS
          by_cases a : m = 0 <;> simp [hk, a, eo, ev]
        rw [hs] at e
        rw [← List.append_assoc, ← List.append_assoc] at e
        rw [hr]
        simp only [m_ticketlineref04_Bytes_l2, m_ticketlineref04_Bytes_l2_b, beq_self_eq_true, if_true, sz, show (0 : Int) < ((3 : Nat) : Int) by omega, show (1 : Int) < ((3 : Nat) : Int) by omega, show (2 : Int) < ((3 : Nat) : Int) by omega, show ¬ (3 : Int) < ((3 : Nat) : Int) by omega, show (0 : Int) ≤ 1 by omega, show (0 : Int) ≤ 2 by omega, decide_true, decide_false, Bool.false_eq_true, if_false, Int.le_refl, b0, b1, b2, hK, hO, hV, Option.bind_some, Bool.not_true, if_pos F1, if_pos (F2 _), if_pos (F3 _ _), w1, w2, w3, e]
        rw [List.append_assoc, List.append_assoc]
        refine says_if ⟨fun h => ?_, fun a => ?_⟩
        · simp only [Prod.mk.injEq] at h; exact h.1.2.2.1.symm
        · subst a; exact ⟨rfl, rfl⟩
  case inr.inr.inr.inr.inr.inl =>
    have sz : (strOf (needS 6)).size = 2 := rfl
    have b1 : bt (strOf (needS 6)) 1 = 110 := rfl
    by_cases d : 1 ≤ m ∧ m ≤ 32
    case neg =>
      rw [if_neg d] at hN
      have hr : reqS 6 m key val old = none := by
        unfold reqS
        rw [if_neg v78, if_pos hk, if_pos rfl, if_neg (fun h => d h.2.2)]
      rw [hr]
      simp only [m_ticketlineref04_Bytes_l2, m_ticketlineref04_Bytes_l2_b, beq_self_eq_true, if_true, sz, show (0 : Int) < ((2 : Nat) : Int) by omega, show (1 : Int) < ((2 : Nat) : Int) by omega, show (0 : Int) ≤ 1 by omega, decide_true, Bool.false_eq_true, if_false, Int.le_refl, b0, b1, hK, hN, Option.bind_some, Bool.not_true, Bool.not_false, if_pos F1, w1]
      exact says_none _
    rw [if_pos d] at hN
    have e := hA ([keyN key] ++ [m - 1]) ((r1 kr).append (r1 ⟨by omega, by omega⟩))
    have hs : nextS ([8 * th + 5, 6 - 1 + 8 * tk] ++ ([keyN key] ++ [m - 1])) 64 = ((3, th, m, 6, key, eB, eB, tk, ()), 4) := by
      refine (hne [keyN key, m - 1]).trans ?_
      unfold startS
      dsimp only
      rw [hpv, hpk, if_neg (by omega), if_neg (by omega), if_neg (by omega), if_pos (by omega), at_zero, at_cons, at_zero, hkk, show (m - 1) % 32 + 1 = m by omega]
    have hr : reqS 6 m key val old = if val = eB ∧ old = eB then some ([keyN key] ++ [m - 1]) else none := by
      unfold reqS
      rw [if_neg v78, if_pos hk, if_pos rfl]
      by_cases c : val = eB ∧ old = eB
      · rw [if_pos c, if_pos ⟨c.1, c.2, d⟩]; rfl
      · rw [if_neg c, if_neg (fun h => c ⟨h.1, h.2.1⟩)]
    rw [hs] at e
    rw [← List.append_assoc] at e
    rw [hr]
    simp only [m_ticketlineref04_Bytes_l2, m_ticketlineref04_Bytes_l2_b, beq_self_eq_true, if_true, sz, show (0 : Int) < ((2 : Nat) : Int) by omega, show (1 : Int) < ((2 : Nat) : Int) by omega, show ¬ (2 : Int) < ((2 : Nat) : Int) by omega, show (0 : Int) ≤ 1 by omega, decide_true, decide_false, Bool.false_eq_true, if_false, Int.le_refl, b0, b1, hK, hN, Option.bind_some, Bool.not_true, if_pos F1, if_pos (F2 _), w1, w2, e]
    rw [List.append_assoc]
    refine says_if ⟨fun h => ?_, fun ⟨a, b⟩ => ?_⟩
    · simp only [Prod.mk.injEq] at h; exact ⟨h.1.2.2.2.2.2.1.symm, h.1.2.2.2.2.2.2.1.symm⟩
    · subst a; subst b; exact ⟨rfl, rfl⟩
end Go.Ev.L.T4
