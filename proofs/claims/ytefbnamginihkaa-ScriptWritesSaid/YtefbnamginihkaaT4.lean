/- Seat 04: the shortest bytes of an operation. -/
import Derived.Test.YtefbnamginihkaaT3
set_option linter.unusedVariables false
set_option linter.unusedSimpArgs false
set_option maxRecDepth 10000
namespace Go.Ev.L.T4
open Go Go.Ev Go.Ev.M Go.Ev.L

def plainS (k th n v : Int) (key val old : ByteArray) (tk : Int) : Op4 :=
  if k = 3 then
    if v = 7 ∨ v = 8 then (3, th, 0, v, eB, eB, eB, tk, ())
    else if v = 6 then (3, th, n, v, key, eB, eB, tk, ())
    else if v = 5 then (3, th, 0, v, key, val, old, tk, ())
    else if v = 2 ∨ v = 3 then (3, th, 0, v, key, val, eB, tk, ())
    else (3, th, 0, v, key, eB, eB, tk, ())
  else if k = 1 then (1, th, n, 0, eB, eB, eB, 0, ())
  else (k, 0, n, 0, eB, eB, eB, 0, ())
theorem script_plain (k th n v : Int) (key val old : ByteArray) (tk : Int) : m_script_plain (k, th, n, v, key, val, old, tk, ()) = some (plainS k th n v key val old tk) := by
  unfold m_script_plain plainS
  by_cases h3 : k = 3
  · subst h3
    by_cases v7 : v = 7
    · subst v7; simp
    by_cases v8 : v = 8
    · subst v8; simp
    by_cases v6 : v = 6
    · subst v6; simp
    by_cases v5 : v = 5
    · subst v5; simp
    by_cases v2 : v = 2
    · subst v2; simp
    by_cases v3 : v = 3
    · subst v3; simp
    simp [v7, v8, v6, v5, v2, v3]
  · by_cases h1 : k = 1
    · subst h1; simp
    · simp [h1, h3]
theorem script_within {x a m : Int} (h : -1000 ≤ a ∧ a ≤ 1000) (h' : 0 ≤ m ∧ m ≤ 1000) : m_script_within x a m = some (decide (a ≤ x ∧ x < a + m)) := by
  unfold m_script_within
  rw [wI (x := a + m) (by omega) (by omega)]
  by_cases c : a ≤ x
  · simp [c]
  · simp [c]
def reqS (v n : Int) (key val old : ByteArray) : Option (List Int) :=
  if v = 7 ∨ v = 8 then (if n = 0 ∧ key = eB ∧ val = eB ∧ old = eB then some [] else none)
  else if keyedS key then
    if v = 6 then (if val = eB ∧ old = eB ∧ 1 ≤ n ∧ n ≤ 32 then some [keyN key, n - 1] else none)
    else if n = 0 then
      if v = 5 then (match valuedS old, valuedS val with | some a, some b => some [keyN key, a, b] | _, _ => none)
      else if old = eB then
        if v = 2 ∨ v = 3 then (match valuedS val with | some b => some [keyN key, b] | none => none)
        else if val = eB then some [keyN key] else none
      else none
    else none
  else none
def encS (k th n v : Int) (key val old : ByteArray) (tk : Int) : Option (List Int) :=
  if k = 3 then
    if 0 ≤ th ∧ th < 32 ∧ 0 ≤ tk ∧ tk < 32 ∧ 1 ≤ v ∧ v ≤ 8 then (reqS v n key val old).map fun l => [8 * th + 5, v - 1 + 8 * tk] ++ l else none
  else if v = 0 ∧ key = eB ∧ val = eB ∧ old = eB ∧ tk = 0 then
    if k = 1 then (if 0 ≤ th ∧ th < 32 ∧ 1 ≤ n ∧ n ≤ 16 then some [8 * th, n - 1] else none)
    else if k = 2 then (if th = 0 ∧ 0 ≤ n ∧ n < 256 then some [3, n] else none)
    else if k = 4 then (if th = 0 ∧ 1 ≤ n ∧ n ≤ 8 then some [4, n - 1] else none)
    else none
  else none
theorem valuedS_e : valuedS eB = some 0 := by
  unfold valuedS leastV
  rw [if_pos (show valS ((0 : Nat) : Int) = eB from rfl)]
/-- what is said of the bytes of an operation -/
def Says (r : Option (List Int × Bool)) (x : Option (List Int)) : Prop := ∃ bs, r = some (bs, x.isSome) ∧ bs.length ≤ 5 ∧ ∀ l, x = some l → bs = l
theorem says_none (bs : List Int) (h : bs.length ≤ 5 := by simp) : Says (some (bs, false)) none := ⟨bs, rfl, h, fun l h => by cases h⟩
theorem says_some (bs : List Int) (h : bs.length ≤ 5 := by simp) : Says (some (bs, true)) (some bs) := ⟨bs, rfl, h, fun l h => by cases h; rfl⟩
theorem fitsS {n m : Nat} (h : n + m ≤ 100) : fits (n + m) 1 := by unfold fits; omega

theorem script_bytes_1 (k th n v : Int) (key val old : ByteArray) (tk : Int) (h3 : k ≠ 3) : Says (m_script_bytes (k, th, n, v, key, val, old, tk, ())) (encS k th n v key val old tk) := by
  unfold m_script_bytes
  have hP := script_plain k th n v key val old tk
  have hw := script_within (x := th) (a := 0) (m := 32) (by omega) (by omega)
  have hw1 := script_within (x := n) (a := 1) (m := 16) (by omega) (by omega)
  have hw2 := script_within (x := n) (a := 0) (m := 256) (by omega) (by omega)
  have hw4 := script_within (x := n) (a := 1) (m := 8) (by omega) (by omega)
  unfold encS
  rw [if_neg h3]
  by_cases hp : (k, th, n, v, key, val, old, tk, ()) = plainS k th n v key val old tk
  · have hb : Ty.beq tOp (k, th, n, v, key, val, old, tk, ()) (plainS k th n v key val old tk) = true := op_beq.2 hp
    have hq : (k ≠ 1 → th = 0) ∧ v = 0 ∧ key = eB ∧ val = eB ∧ old = eB ∧ tk = 0 := by
      unfold plainS at hp
      rw [if_neg h3] at hp
      by_cases h1 : k = 1
      · rw [if_pos h1] at hp
        simp only [Prod.mk.injEq] at hp
        exact ⟨fun h => absurd h1 h, hp.2.2.2.1, hp.2.2.2.2.1, hp.2.2.2.2.2.1, hp.2.2.2.2.2.2.1, hp.2.2.2.2.2.2.2.1⟩
      · rw [if_neg h1] at hp
        simp only [Prod.mk.injEq] at hp
        exact ⟨fun h => hp.2.1, hp.2.2.2.1, hp.2.2.2.2.1, hp.2.2.2.2.2.1, hp.2.2.2.2.2.2.1, hp.2.2.2.2.2.2.2.1⟩
    rw [if_pos hq.2]
    by_cases c : 0 ≤ th ∧ th < 32
    · have w8 : IntKind.u8.wrap (IntKind.i64.wrap (th * 8)) = 8 * th := by rw [wI (by omega) (by omega), wB (by omega) (by omega)]; omega
      by_cases h1 : k = 1
      · subst h1
        rw [if_pos rfl]
        by_cases d : 1 ≤ n ∧ n ≤ 16
        · have w9 : IntKind.u8.wrap (IntKind.i64.wrap (n - 1)) = n - 1 := by rw [wI (by omega) (by omega), wB (by omega) (by omega)]
          rw [if_pos (show 0 ≤ th ∧ th < 32 ∧ 1 ≤ n ∧ n ≤ 16 from ⟨c.1, c.2, d.1, d.2⟩)]
          simp only [hP, Option.bind_some, hb, Bool.not_true, Bool.false_eq_true, if_false, hw, decide_eq_true (show 0 ≤ th ∧ th < 0 + 32 by omega), beq_self_eq_true, if_true, hw1, decide_eq_true (show 1 ≤ n ∧ n < 1 + 16 by omega), w8, w9]
          exact says_some _
        · rw [if_neg (show ¬ (0 ≤ th ∧ th < 32 ∧ 1 ≤ n ∧ n ≤ 16) by omega)]
          simp only [hP, Option.bind_some, hb, Bool.not_true, Bool.false_eq_true, if_false, hw, decide_eq_true (show 0 ≤ th ∧ th < 0 + 32 by omega), beq_self_eq_true, if_true, hw1, decide_eq_false (show ¬ (1 ≤ n ∧ n < 1 + 16) by omega)]
          exact says_none _
      · have k1 : (k == 1) = false := by simp [h1]
        have ht := hq.1 h1
        rw [if_neg h1]
        by_cases h2 : k = 2
        · subst h2
          rw [if_pos rfl]
          have k2 : ((2 : Int) == 1) = false := by decide
          by_cases d : 0 ≤ n ∧ n < 256
          · rw [if_pos (show th = 0 ∧ 0 ≤ n ∧ n < 256 from ⟨ht, d.1, d.2⟩)]
            simp only [hP, Option.bind_some, hb, Bool.not_true, Bool.false_eq_true, if_false, hw, decide_eq_true (show 0 ≤ th ∧ th < 0 + 32 by omega), k2, beq_self_eq_true, if_true, hw2, decide_eq_true (show 0 ≤ n ∧ n < 0 + 256 by omega), wB (x := n) d.1 d.2]
            exact says_some _
          · rw [if_neg (show ¬ (th = 0 ∧ 0 ≤ n ∧ n < 256) by omega)]
            simp only [hP, Option.bind_some, hb, Bool.not_true, Bool.false_eq_true, if_false, hw, decide_eq_true (show 0 ≤ th ∧ th < 0 + 32 by omega), k2, beq_self_eq_true, if_true, hw2, decide_eq_false (show ¬ (0 ≤ n ∧ n < 0 + 256) by omega)]
            exact says_none _
        · have k2 : (k == 2) = false := by simp [h2]
          have k3 : (k == 3) = false := by simp [h3]
          rw [if_neg h2]
          by_cases h4 : k = 4
          · subst h4
            rw [if_pos rfl]
            have k41 : ((4 : Int) == 1) = false := by decide
            have k42 : ((4 : Int) == 2) = false := by decide
            by_cases d : 1 ≤ n ∧ n ≤ 8
            · have w9 : IntKind.u8.wrap (IntKind.i64.wrap (n - 1)) = n - 1 := by rw [wI (by omega) (by omega), wB (by omega) (by omega)]
              rw [if_pos (show th = 0 ∧ 1 ≤ n ∧ n ≤ 8 from ⟨ht, d.1, d.2⟩)]
              simp only [hP, Option.bind_some, hb, Bool.not_true, Bool.false_eq_true, if_false, hw, decide_eq_true (show 0 ≤ th ∧ th < 0 + 32 by omega), k41, k42, beq_self_eq_true, if_true, hw4, decide_eq_true (show 1 ≤ n ∧ n < 1 + 8 by omega), w9]
              exact says_some _
            · rw [if_neg (show ¬ (th = 0 ∧ 1 ≤ n ∧ n ≤ 8) by omega)]
              simp only [hP, Option.bind_some, hb, Bool.not_true, Bool.false_eq_true, if_false, hw, decide_eq_true (show 0 ≤ th ∧ th < 0 + 32 by omega), k41, k42, beq_self_eq_true, if_true, hw4, decide_eq_false (show ¬ (1 ≤ n ∧ n < 1 + 8) by omega)]
              exact says_none _
          · have k4 : (k == 4) = false := by simp [h4]
            rw [if_neg h4]
            simp only [hP, Option.bind_some, hb, Bool.not_true, Bool.false_eq_true, if_false, hw, decide_eq_true (show 0 ≤ th ∧ th < 0 + 32 by omega), k1, k2, k3, k4]
            exact says_none _
    · have hx : (if k = 1 then (if 0 ≤ th ∧ th < 32 ∧ 1 ≤ n ∧ n ≤ 16 then some [8 * th, n - 1] else none)
          else if k = 2 then (if th = 0 ∧ 0 ≤ n ∧ n < 256 then some [3, n] else none)
          else if k = 4 then (if th = 0 ∧ 1 ≤ n ∧ n ≤ 8 then some [4, n - 1] else none)
          else none : Option (List Int)) = none := by
        split
        · rw [if_neg (by omega)]
        · split
          · rw [if_neg (by omega)]
          · split
            · rw [if_neg (by omega)]
            · rfl
      rw [hx]
      simp only [hP, Option.bind_some, hb, Bool.not_true, Bool.false_eq_true, if_false, hw, decide_eq_false (show ¬ (0 ≤ th ∧ th < 0 + 32) by omega), Bool.not_false, if_true]
      exact says_none _
  · have hb : Ty.beq tOp (k, th, n, v, key, val, old, tk, ()) (plainS k th n v key val old tk) = false := op_beq_false hp
    have hx : (if v = 0 ∧ key = eB ∧ val = eB ∧ old = eB ∧ tk = 0 then
        if k = 1 then (if 0 ≤ th ∧ th < 32 ∧ 1 ≤ n ∧ n ≤ 16 then some [8 * th, n - 1] else none)
          else if k = 2 then (if th = 0 ∧ 0 ≤ n ∧ n < 256 then some [3, n] else none)
          else if k = 4 then (if th = 0 ∧ 1 ≤ n ∧ n ≤ 8 then some [4, n - 1] else none)
          else none else none : Option (List Int)) = none := by
      unfold plainS at hp
      rw [if_neg h3] at hp
      split
      · rename_i q
        obtain ⟨rfl, rfl, rfl, rfl, rfl⟩ := q
        split
        · rename_i h1
          rw [if_pos h1, h1] at hp
          exact absurd rfl hp
        · rename_i h1
          rw [if_neg h1] at hp
          have : th ≠ 0 := fun h => hp (by rw [h])
          split
          · rw [if_neg (by omega)]
          · split
            · rw [if_neg (by omega)]
            · rfl
      · rfl
    rw [hx]
    simp only [hP, Option.bind_some, hb, Bool.not_false, if_true]
    exact says_none _
theorem script_bytes_3 (th n v : Int) (key val old : ByteArray) (tk : Int) : Says (m_script_bytes (3, th, n, v, key, val, old, tk, ())) (encS 3 th n v key val old tk) := by
  unfold m_script_bytes
  have hP := script_plain 3 th n v key val old tk
  have hw := script_within (x := th) (a := 0) (m := 32) (by omega) (by omega)
  have hwv := script_within (x := v) (a := 1) (m := 8) (by omega) (by omega)
  have hwt := script_within (x := tk) (a := 0) (m := 32) (by omega) (by omega)
  have hwn := script_within (x := n) (a := 1) (m := 32) (by omega) (by omega)
  have k31 : ((3 : Int) == 1) = false := by decide
  have k32 : ((3 : Int) == 2) = false := by decide
  have k34 : ((3 : Int) == 4) = false := by decide
  unfold encS
  rw [if_pos rfl]
  by_cases hp : (3, th, n, v, key, val, old, tk, ()) = plainS 3 th n v key val old tk
  · have hb : Ty.beq tOp (3, th, n, v, key, val, old, tk, ()) (plainS 3 th n v key val old tk) = true := op_beq.2 hp
    by_cases c : 0 ≤ th ∧ th < 32 ∧ 0 ≤ tk ∧ tk < 32 ∧ 1 ≤ v ∧ v ≤ 8
    · obtain ⟨c1, c2, c3, c4, c5, c6⟩ := c
      rw [if_pos (show 0 ≤ th ∧ th < 32 ∧ 0 ≤ tk ∧ tk < 32 ∧ 1 ≤ v ∧ v ≤ 8 from ⟨c1, c2, c3, c4, c5, c6⟩)]
      have w8 : IntKind.u8.wrap (IntKind.u8.wrap (IntKind.i64.wrap (th * 8)) + 5) = 8 * th + 5 := by rw [wI (by omega) (by omega), wB (x := th * 8) (by omega) (by omega), wB (by omega) (by omega)]; omega
      have w9 : IntKind.u8.wrap (IntKind.i64.wrap (IntKind.i64.wrap (v - 1) + IntKind.i64.wrap (tk * 8))) = v - 1 + 8 * tk := by rw [wI (x := v - 1) (by omega) (by omega), wI (x := tk * 8) (by omega) (by omega), wI (by omega) (by omega), wB (by omega) (by omega)]; omega
      simp only [hP, Option.bind_some, hb, Bool.not_true, Bool.false_eq_true, if_false, hw, decide_eq_true (show 0 ≤ th ∧ th < 0 + 32 by omega), k31, k32, k34, beq_self_eq_true, if_true, hwv, decide_eq_true (show 1 ≤ v ∧ v < 1 + 8 by omega), hwt, decide_eq_true (show 0 ≤ tk ∧ tk < 0 + 32 by omega), w8, w9]
      unfold plainS at hp
      rw [if_pos rfl] at hp
      obtain ⟨kn, hK, hKe⟩ := script_keyed key
      have hO := script_valued old
      have hV := script_valued val
      by_cases v78 : v = 7 ∨ v = 8
      · rw [if_pos v78] at hp
        simp only [Prod.mk.injEq] at hp
        obtain ⟨_, _, rfl, _, rfl, rfl, rfl, _⟩ := hp
        have hr : reqS v 0 eB eB eB = some [] := by unfold reqS; rw [if_pos v78, if_pos (show (0 : Int) = 0 ∧ eB = eB ∧ eB = eB ∧ eB = eB from ⟨rfl, rfl, rfl, rfl⟩)]
        rw [hr]
        rcases v78 with rfl | rfl
        · simp only [beq_self_eq_true, if_true]; exact says_some _
        · simp only [show ((8 : Int) == 7) = false by decide, Bool.false_eq_true, if_false, beq_self_eq_true, if_true]; exact says_some _
      have v7 : (v == 7) = false := by simp; omega
      have v8 : (v == 8) = false := by simp; omega
      rw [if_neg v78] at hp
      simp only [v7, v8, Bool.false_eq_true, if_false, hK, hO, hV, Option.bind_some, if_pos (fitsS (n := 2) (m := 1) (by omega)), List.length_cons, List.length_nil, List.length_append, Nat.zero_add, Nat.reduceAdd]
      have F1 : fits (2 + 1) 1 := fitsS (by omega)
      have F2 : fits (3 + 1) 1 := fitsS (by omega)
      have F3 : fits (3 + 2) 1 := fitsS (by omega)
      unfold reqS
      rw [if_neg v78]
      by_cases hk : keyedS key
      case neg =>
        rw [if_neg hk]
        have e : decide (keyedS key) = false := decide_eq_false hk
        simp only [e, Bool.false_eq_true, if_false, if_pos F1, if_pos F2, if_pos F3, hwn, Option.bind_some]
        repeat' split
        all_goals first | exact says_none _ | (rename_i h; exact absurd (by first | exact F1 | exact F2 | exact F3) h)
      rw [if_pos hk]
      have ek : decide (keyedS key) = true := decide_eq_true hk
      have hkn : kn = keyN key := hKe hk
      subst hkn
      by_cases v6 : v = 6
      · subst v6
        simp only [if_true] at hp ⊢
        simp only [Prod.mk.injEq] at hp
        obtain ⟨_, _, _, _, _, rfl, rfl, _⟩ := hp
        rw [valuedS_e]
        simp only [ek, if_true, show ((6 : Int) == 2) = false by decide, show ((6 : Int) == 3) = false by decide, show ((6 : Int) == 5) = false by decide, beq_self_eq_true, Bool.false_eq_true, if_false, if_pos F1, if_pos F2, hwn, Option.bind_some]
        by_cases d : 1 ≤ n ∧ n ≤ 32
        · have w1 : IntKind.u8.wrap (IntKind.i64.wrap (n - 1)) = n - 1 := by rw [wI (by omega) (by omega), wB (by omega) (by omega)]
          rw [if_pos (show True ∧ True ∧ 1 ≤ n ∧ n ≤ 32 from ⟨trivial, trivial, d.1, d.2⟩), decide_eq_true (show 1 ≤ n ∧ n < 1 + 32 by omega), w1]
          exact says_some _
        · rw [if_neg (show ¬ (True ∧ True ∧ 1 ≤ n ∧ n ≤ 32) from fun h => d ⟨h.2.2.1, h.2.2.2⟩), decide_eq_false (show ¬ (1 ≤ n ∧ n < 1 + 32) by omega)]
          exact says_none _
      have v6' : (v == 6) = false := by simp; omega
      rw [if_neg v6] at hp
      rw [if_neg v6]
      by_cases v5 : v = 5
      · subst v5
        simp only [if_true] at hp
        simp only [Prod.mk.injEq] at hp
        obtain ⟨_, _, rfl, _⟩ := hp
        rw [if_pos rfl, if_pos rfl]
        simp only [ek, if_true, show ((5 : Int) == 2) = false by decide, show ((5 : Int) == 3) = false by decide, beq_self_eq_true, Bool.false_eq_true, if_false, if_pos F1, if_pos F3]
        cases e1 : valuedS old with
        | none => simp only [Bool.false_eq_true, if_false]; exact says_none _
        | some a =>
          cases e2 : valuedS val with
          | none => simp only [if_true]; exact says_none _
          | some b => simp only [if_true]; exact says_some _
      rw [if_neg v5] at hp
      have v5' : (v == 5) = false := by simp; omega
      by_cases v23 : v = 2 ∨ v = 3
      · rw [if_pos v23] at hp
        simp only [Prod.mk.injEq] at hp
        obtain ⟨_, _, rfl, _, _, _, rfl, _⟩ := hp
        rw [if_pos rfl, if_neg v5, if_pos rfl, if_pos v23, valuedS_e]
        rcases v23 with rfl | rfl
        · simp only [ek, if_true, beq_self_eq_true, if_pos F1, if_pos F2]
          cases e2 : valuedS val with
          | none => exact says_none _
          | some b => exact says_some _
        · simp only [ek, if_true, show ((3 : Int) == 2) = false by decide, Bool.false_eq_true, if_false, beq_self_eq_true, if_pos F1, if_pos F2]
          cases e2 : valuedS val with
          | none => exact says_none _
          | some b => exact says_some _
      rw [if_neg v23] at hp
      simp only [Prod.mk.injEq] at hp
      obtain ⟨_, _, rfl, _, _, rfl, rfl, _⟩ := hp
      have v2' : (v == 2) = false := by simp; omega
      have v3' : (v == 3) = false := by simp; omega
      rw [if_pos rfl, if_neg v5, if_pos rfl, if_neg v23, if_pos rfl, valuedS_e]
      simp only [ek, if_true, v2', v3', v5', v6', Bool.false_eq_true, if_false, if_pos F1]
      exact says_some _
    · rw [if_neg c]
      by_cases d : 0 ≤ th ∧ th < 32
      · by_cases d2 : 1 ≤ v ∧ v ≤ 8
        · simp only [hP, Option.bind_some, hb, Bool.not_true, Bool.false_eq_true, if_false, hw, decide_eq_true (show 0 ≤ th ∧ th < 0 + 32 by omega), k31, k32, k34, beq_self_eq_true, if_true, hwv, decide_eq_true (show 1 ≤ v ∧ v < 1 + 8 by omega), hwt, decide_eq_false (show ¬ (0 ≤ tk ∧ tk < 0 + 32) by omega)]
          exact says_none _
        · simp only [hP, Option.bind_some, hb, Bool.not_true, Bool.false_eq_true, if_false, hw, decide_eq_true (show 0 ≤ th ∧ th < 0 + 32 by omega), k31, k32, k34, beq_self_eq_true, if_true, hwv, decide_eq_false (show ¬ (1 ≤ v ∧ v < 1 + 8) by omega)]
          exact says_none _
      · simp only [hP, Option.bind_some, hb, Bool.not_true, Bool.false_eq_true, if_false, hw, decide_eq_false (show ¬ (0 ≤ th ∧ th < 0 + 32) by omega), Bool.not_false, if_true]
        exact says_none _
  · have hb : Ty.beq tOp (3, th, n, v, key, val, old, tk, ()) (plainS 3 th n v key val old tk) = false := op_beq_false hp
    have hx : reqS v n key val old = none := by
      unfold plainS at hp
      rw [if_pos rfl] at hp
      unfold reqS
      by_cases v78 : v = 7 ∨ v = 8
      · rw [if_pos v78] at hp ⊢
        rw [if_neg]
        rintro ⟨rfl, rfl, rfl, rfl⟩
        exact hp rfl
      rw [if_neg v78] at hp ⊢
      split
      · by_cases v6 : v = 6
        · rw [if_pos v6] at hp ⊢
          rw [if_neg]
          rintro ⟨rfl, rfl, _⟩
          exact hp rfl
        rw [if_neg v6] at hp ⊢
        split
        · rename_i h0
          subst h0
          by_cases v5 : v = 5
          · rw [if_pos v5] at hp
            exact absurd rfl hp
          rw [if_neg v5] at hp ⊢
          split
          · rename_i h0
            subst h0
            by_cases v23 : v = 2 ∨ v = 3
            · rw [if_pos v23] at hp
              exact absurd rfl hp
            rw [if_neg v23] at hp ⊢
            rw [if_neg]
            rintro rfl
            exact hp rfl
          · rfl
        · rfl
      · rfl
    have hx2 : (if 0 ≤ th ∧ th < 32 ∧ 0 ≤ tk ∧ tk < 32 ∧ 1 ≤ v ∧ v ≤ 8 then (reqS v n key val old).map fun l => [8 * th + 5, v - 1 + 8 * tk] ++ l else none) = none := by
      rw [hx]; split <;> rfl
    rw [hx2]
    simp only [hP, Option.bind_some, hb, Bool.not_false, if_true]
    exact says_none _
theorem script_bytes (k th n v : Int) (key val old : ByteArray) (tk : Int) : Says (m_script_bytes (k, th, n, v, key, val, old, tk, ())) (encS k th n v key val old tk) := by
  by_cases h : k = 3
  · subst h; exact script_bytes_3 th n v key val old tk
  · exact script_bytes_1 k th n v key val old tk h
theorem script_Valid (k th n v : Int) (key val old : ByteArray) (tk : Int) : m_script_Valid (k, th, n, v, key, val, old, tk, ()) = some (encS k th n v key val old tk).isSome := by
  obtain ⟨bs, h, _⟩ := script_bytes k th n v key val old tk
  unfold m_script_Valid
  rw [h]; rfl
end Go.Ev.L.T4
