/- Seat 04: ScriptWrites, ScriptLongs. -/
import Derived.Test.YtefbnamginihkaaT6
set_option linter.unusedVariables false
set_option linter.unusedSimpArgs false
set_option maxRecDepth 10000
namespace Go.Ev.L.T4
open Go Go.Ev Go.Ev.M Go.Ev.L

def encO (o : Op4) : Option (List Int) := encS o.1 o.2.1 o.2.2.1 o.2.2.2.1 o.2.2.2.2.1 o.2.2.2.2.2.1 o.2.2.2.2.2.2.1 o.2.2.2.2.2.2.2.1
theorem bytes_O (o : Op4) : Says (m_script_bytes o) (encO o) := by obtain ⟨a1, a2, a3, a4, a5, a6, a7, a8, au⟩ := o; exact script_bytes a1 a2 a3 a4 a5 a6 a7 a8
theorem valid_O (o : Op4) : m_script_Valid o = some (encO o).isSome := by obtain ⟨a1, a2, a3, a4, a5, a6, a7, a8, au⟩ := o; exact script_Valid a1 a2 a3 a4 a5 a6 a7 a8
theorem ref_O (o : Op4) : Says (m_ticketlineref04_Bytes o) (encO o) := by obtain ⟨a1, a2, a3, a4, a5, a6, a7, a8, au⟩ := o; exact ref04_Bytes a1 a2 a3 a4 a5 a6 a7 a8
def encAll : List Op4 → Option (List Int)
  | [] => some []
  | o :: l => match encO o with
    | none => none
    | some a => (encAll l).map fun b => a ++ b
def endS (x : Option (List Int)) : List Int × Int := match x with
  | none => ([], 2)
  | some b => if 4096 < b.length then ([], 5) else (b, 0)
theorem fits1' {n m : Nat} (h : n + m ≤ 1000000) : fits (n + m) 1 := by unfold fits; omega
theorem write_l0 {l : List Op4} (hl : l.length ≤ 10000) : ∀ (m n N i : Nat) (out : List Int), i + m = l.length → m < n → out.length ≤ 5 * i →
    m_script_Write_l0 N n l (l.length : Int) i out = some (endS ((encAll (l.drop i)).map fun b => out ++ b)) := by
  intro m
  induction m with
  | zero =>
    intro n N i out hm hn ho
    obtain ⟨n, rfl⟩ : ∃ q, n = q + 1 := ⟨n - 1, by omega⟩
    rw [List.drop_of_length_le (by omega)]
    simp only [m_script_Write_l0, m_script_Write_l0_b, show ¬ (i : Int) < (l.length : Int) by omega, decide_false, Bool.false_eq_true, if_false, encAll, Option.map_some, List.append_nil, endS]
    by_cases c : 4096 < out.length
    · simp only [show (out.length : Int) > 4096 by omega, decide_true, if_true, if_pos c]
    · simp only [show ¬ (out.length : Int) > 4096 by omega, decide_false, Bool.false_eq_true, if_false, if_neg c]
  | succ m ih =>
    intro n N i out hm hn ho
    obtain ⟨n, rfl⟩ : ∃ q, n = q + 1 := ⟨n - 1, by omega⟩
    have hd : l.drop i = l[i] :: l.drop (i + 1) := List.drop_eq_getElem_cons (by omega)
    have hr := rd_op (l := l) (i := i) (by omega)
    have w : IntKind.i64.wrap ((i : Int) + 1) = ((i + 1 : Nat) : Int) := by rw [wI (by omega) (by omega)]; omega
    obtain ⟨bs, b1, b2, b3⟩ := bytes_O l[i]
    rw [hd]
    cases e : encO l[i] with
    | none =>
      rw [e] at b1
      simp only [m_script_Write_l0, m_script_Write_l0_b, show (i : Int) < (l.length : Int) by omega, decide_true, if_true, Int.natCast_nonneg, hr, b1, Option.bind_some, Option.isSome_none, Bool.not_false, encAll, e, Option.map_none, endS]
    | some a =>
      rw [e] at b1
      have := b3 a e
      subst this
      have f : fits (out.length + bs.length) 1 := fits1' (by omega)
      have I := ih n N (i + 1) (out ++ bs) (by omega) (by omega) (by rw [List.length_append]; omega)
      simp only [m_script_Write_l0, m_script_Write_l0_b, show (i : Int) < (l.length : Int) by omega, decide_true, if_true, Int.natCast_nonneg, hr, b1, Option.bind_some, Option.isSome_some, Bool.not_true, Bool.false_eq_true, if_false, if_pos f, w, I, encAll, e]
      cases encAll (l.drop (i + 1)) with
      | none => rfl
      | some b => simp only [Option.map_some, List.append_assoc]
theorem script_Write {l : List Op4} (hl : l.length ≤ 10000) : m_script_Write l = some (endS (encAll l)) := by
  have L := write_l0 hl l.length FUEL FUEL 0 [] (by omega) (by have := FUEL_big; omega) (by simp)
  refine Eq.trans L ?_
  rw [List.drop_zero]
  cases encAll l with
  | none => rfl
  | some b => rfl
theorem law_writes {l : List Op4} (hl : l.length ≤ 10000) {b : List Int} {e : Int} (h : endS (encAll l) = (b, e)) : m_ticketlinelaw04_writes l b e = some true := by
  have hW := script_Write hl
  rw [h] at hW
  unfold m_ticketlinelaw04_writes
  simp only [hW, Option.bind_some, strEq_refl', if_true, beq_self_eq_true]
theorem few_l0 {l : List Op4} : ∀ (m n N i : Nat), i + m = 13 → m < n → ∃ r, m_ticketlinelaw04_few_l0 N n l 12 i = some r ∧ (r = true → l.length ≤ 12) := by
  intro m
  induction m with
  | zero =>
    intro n N i hm hn
    obtain ⟨n, rfl⟩ : ∃ q, n = q + 1 := ⟨n - 1, by omega⟩
    by_cases c : (i : Int) < (l.length : Int)
    · refine ⟨decide ((l.length : Int) ≤ 12), ?_, fun h => by have := of_decide_eq_true h; omega⟩
      simp only [m_ticketlinelaw04_few_l0, m_ticketlinelaw04_few_l0_b, c, decide_true, if_true, show ¬ (i : Int) ≤ 12 by omega, decide_false, Bool.false_eq_true, if_false]
    · refine ⟨decide ((l.length : Int) ≤ 12), ?_, fun h => by have := of_decide_eq_true h; omega⟩
      simp only [m_ticketlinelaw04_few_l0, m_ticketlinelaw04_few_l0_b, c, decide_false, Bool.false_eq_true, if_false]
  | succ m ih =>
    intro n N i hm hn
    obtain ⟨n, rfl⟩ : ∃ q, n = q + 1 := ⟨n - 1, by omega⟩
    have w : IntKind.i64.wrap ((i : Int) + 1) = ((i + 1 : Nat) : Int) := by rw [wI (by omega) (by omega)]; omega
    by_cases c : (i : Int) < (l.length : Int)
    · obtain ⟨r, h1, h2⟩ := ih n N (i + 1) (by omega) (by omega)
      simp only [m_ticketlinelaw04_few_l0, m_ticketlinelaw04_few_l0_b, c, decide_true, if_true, show (i : Int) ≤ 12 by omega, Int.natCast_nonneg, w, h1]
      by_cases c1 : (((rd tOp l (i : Int)).2.2.2.2.1.size : Int) > 60)
      · exact ⟨false, by simp only [c1, decide_true, if_true], fun h => by cases h⟩
      by_cases c2 : (((rd tOp l (i : Int)).2.2.2.2.2.1.size : Int) > 60)
      · exact ⟨false, by simp only [c1, c2, decide_true, decide_false, Bool.false_eq_true, if_false, if_true], fun h => by cases h⟩
      by_cases c3 : (((rd tOp l (i : Int)).2.2.2.2.2.2.1.size : Int) > 60)
      · exact ⟨false, by simp only [c1, c2, c3, decide_true, decide_false, Bool.false_eq_true, if_false, if_true], fun h => by cases h⟩
      exact ⟨r, by simp only [c1, c2, c3, decide_false, Bool.false_eq_true, if_false], h2⟩
    · refine ⟨decide ((l.length : Int) ≤ 12), ?_, fun h => by have := of_decide_eq_true h; omega⟩
      simp only [m_ticketlinelaw04_few_l0, m_ticketlinelaw04_few_l0_b, c, decide_false, Bool.false_eq_true, if_false]
theorem writes_l0 {l : List Op4} (hl : l.length ≤ 12) : ∀ (m n N i : Nat) (fine : Bool) (want : List Int), i + m = l.length → m < n → want.length ≤ 5 * i →
    (encAll l = if fine = true then (encAll (l.drop i)).map fun b => want ++ b else none) → m_ticketlinelaw04_ScriptWrites_l0 N n l fine l (l.length : Int) i want = some true := by
  intro m
  induction m with
  | zero =>
    intro n N i fine want hm hn ho hI
    obtain ⟨n, rfl⟩ : ∃ q, n = q + 1 := ⟨n - 1, by omega⟩
    rw [List.drop_of_length_le (by omega)] at hI
    cases fine with
    | false =>
      have W := law_writes (l := l) (by omega) (b := []) (e := 2) (by rw [hI]; rfl)
      simp only [m_ticketlinelaw04_ScriptWrites_l0, m_ticketlinelaw04_ScriptWrites_l0_b, show ¬ (i : Int) < (l.length : Int) by omega, decide_false, Bool.false_eq_true, if_false, Bool.not_false, if_true, W, Option.bind_some, known04]
    | true =>
      have hI : encAll l = some want := by rw [hI]; simp [encAll]
      have W := law_writes (l := l) (by omega) (b := want) (e := 0) (by rw [hI]; show (if 4096 < want.length then (([] : List Int), (5 : Int)) else (want, 0)) = (want, 0); rw [if_neg (by omega)])
      simp only [m_ticketlinelaw04_ScriptWrites_l0, m_ticketlinelaw04_ScriptWrites_l0_b, show ¬ (i : Int) < (l.length : Int) by omega, decide_false, Bool.false_eq_true, if_false, Bool.not_true, if_true, W, Option.bind_some, known04]
  | succ m ih =>
    intro n N i fine want hm hn ho hI
    obtain ⟨n, rfl⟩ : ∃ q, n = q + 1 := ⟨n - 1, by omega⟩
    have hd : l.drop i = l[i] :: l.drop (i + 1) := List.drop_eq_getElem_cons (by omega)
    have hr := rd_op (l := l) (i := i) (by omega)
    have w : IntKind.i64.wrap ((i : Int) + 1) = ((i + 1 : Nat) : Int) := by rw [wI (by omega) (by omega)]; omega
    obtain ⟨bs, b1, b2, b3⟩ := ref_O l[i]
    have hv := valid_O l[i]
    have f : fits (want.length + bs.length) 1 := fits1' (by omega)
    cases fine with
    | false =>
      have I := ih n N (i + 1) false (want ++ bs) (by omega) (by omega) (by rw [List.length_append]; omega) hI
      simp only [m_ticketlinelaw04_ScriptWrites_l0, m_ticketlinelaw04_ScriptWrites_l0_b, show (i : Int) < (l.length : Int) by omega, decide_true, if_true, Int.natCast_nonneg, hr, b1, hv, Option.bind_some, beq_self_eq_true, Bool.not_true, Bool.false_eq_true, if_false, if_pos f, w, I]
    | true =>
      have I := ih n N (i + 1) (encO l[i]).isSome (want ++ bs) (by omega) (by omega) (by rw [List.length_append]; omega) (by
        rw [hI, hd]
        cases e : encO l[i] with
        | none => simp [encAll, e]
        | some a =>
          have := b3 a e
          subst this
          simp only [encAll, e, Option.isSome_some, if_true]
          cases encAll (l.drop (i + 1)) with
          | none => rfl
          | some b => simp)
      simp only [m_ticketlinelaw04_ScriptWrites_l0, m_ticketlinelaw04_ScriptWrites_l0_b, show (i : Int) < (l.length : Int) by omega, decide_true, if_true, Int.natCast_nonneg, hr, b1, hv, Option.bind_some, beq_self_eq_true, Bool.not_true, Bool.false_eq_true, if_false, if_pos f, w, I]
theorem scriptWrites_true (l : List Op4) : m_ticketlinelaw04_ScriptWrites l = some true := by
  obtain ⟨r, h1, h2⟩ := few_l0 (l := l) 13 FUEL FUEL 0 (by omega) (by have := FUEL_big; omega)
  have h1 : m_ticketlinelaw04_few l 12 = some r := h1
  unfold m_ticketlinelaw04_ScriptWrites m_ticketlinelaw04_ScriptWrites_a
  cases r with
  | false => simp only [h1, Option.bind_some, Bool.not_false, if_true, known04]
  | true =>
    have h12 := h2 rfl
    have L := writes_l0 h12 l.length FUEL FUEL 0 true [] (by omega) (by have := FUEL_big; omega) (by simp) (by rw [List.drop_zero, if_pos rfl]; cases encAll l <;> rfl)
    have L : m_ticketlinelaw04_ScriptWrites_l0 FUEL FUEL l true l (l.length : Int) 0 [] = some true := L
    simp only [h1, Option.bind_some, Bool.not_true, Bool.false_eq_true, if_false, L]

theorem set_fill {α : Type} (a z : α) : ∀ (i m : Nat), (List.replicate i a ++ List.replicate (m + 1) z).set i a = List.replicate (i + 1) a ++ List.replicate m z := by
  intro i
  induction i with
  | zero => intro m; rfl
  | succ i ih =>
    intro m
    show a :: ((List.replicate i a ++ List.replicate (m + 1) z).set i a) = a :: (List.replicate (i + 1) a ++ List.replicate m z)
    rw [ih]
def tk2 : Nat → List Int
  | 0 => []
  | n + 1 => [3, 5] ++ tk2 n
theorem tk2_succ : ∀ n, tk2 (n + 1) = tk2 n ++ [3, 5] := by
  intro n
  induction n with
  | zero => rfl
  | succ n ih =>
    show [3, 5] ++ tk2 (n + 1) = ([3, 5] ++ tk2 n) ++ [3, 5]
    conv => lhs; rw [ih]
    rw [List.append_assoc]
theorem tk2_length : ∀ n, (tk2 n).length = 2 * n := by
  intro n
  induction n with
  | zero => rfl
  | succ n ih =>
    show ([3, 5] ++ tk2 n).length = _
    rw [List.length_append, ih]; simp; omega
abbrev tickO : Op4 := (2, 0, 5, 0, ⟨#[]⟩, ⟨#[]⟩, ⟨#[]⟩, 0, ())
abbrev zeroO : Op4 := (0, 0, 0, 0, ⟨#[]⟩, ⟨#[]⟩, ⟨#[]⟩, 0, ())
theorem enc_tick : encO tickO = some [3, 5] := by
  unfold encO encS
  rw [if_neg (by decide), if_pos ⟨rfl, rfl, rfl, rfl, rfl⟩, if_neg (by decide), if_pos rfl, if_pos (by decide)]
theorem encAll_ticks : ∀ n, encAll (List.replicate n tickO) = some (tk2 n) := by
  intro n
  induction n with
  | zero => rfl
  | succ n ih =>
    show encAll (tickO :: List.replicate n tickO) = _
    unfold encAll
    rw [enc_tick]
    dsimp only
    rw [ih]; rfl
theorem longs_l1 {w : Nat} (hw : w ≤ 3000) : ∀ (m n N i : Nat), i + m = w → m < n →
    m_ticketlinelaw04_ScriptLongs_l2 N n (w : Int) (w : Int) i (List.replicate i tickO ++ List.replicate m zeroO) (tk2 i) = some true := by
  intro m
  induction m with
  | zero =>
    intro n N i hm hn
    obtain ⟨n, rfl⟩ : ∃ q, n = q + 1 := ⟨n - 1, by omega⟩
    have e2 : IntKind.i64.wrap (2 * (w : Int)) = 2 * (w : Int) := wI (by omega) (by omega)
    have hE := encAll_ticks i
    have hl := tk2_length i
    rw [show List.replicate i tickO ++ List.replicate 0 zeroO = List.replicate i tickO by simp]
    by_cases c : 4096 < 2 * w
    · have W := law_writes (l := List.replicate i tickO) (by rw [List.length_replicate]; omega) (b := []) (e := 5) (by rw [hE]; show (if 4096 < (tk2 i).length then (([] : List Int), (5 : Int)) else (tk2 i, 0)) = ([], 5); rw [if_pos (by omega)])
      simp only [m_ticketlinelaw04_ScriptLongs_l2, m_ticketlinelaw04_ScriptLongs_l2_b, show ¬ (i : Int) < (w : Int) by omega, decide_false, Bool.false_eq_true, if_false, e2, show 2 * (w : Int) > 4096 by omega, decide_true, if_true, W, Option.bind_some, known04]
    · have W := law_writes (l := List.replicate i tickO) (by rw [List.length_replicate]; omega) (b := tk2 i) (e := 0) (by rw [hE]; show (if 4096 < (tk2 i).length then (([] : List Int), (5 : Int)) else (tk2 i, 0)) = (tk2 i, 0); rw [if_neg (by omega)])
      simp only [m_ticketlinelaw04_ScriptLongs_l2, m_ticketlinelaw04_ScriptLongs_l2_b, show ¬ (i : Int) < (w : Int) by omega, decide_false, Bool.false_eq_true, if_false, e2, show ¬ 2 * (w : Int) > 4096 by omega, if_true, W, Option.bind_some, known04]
  | succ m ih =>
    intro n N i hm hn
    obtain ⟨n, rfl⟩ : ∃ q, n = q + 1 := ⟨n - 1, by omega⟩
    have w1 : IntKind.i64.wrap ((i : Int) + 1) = ((i + 1 : Nat) : Int) := by rw [wI (by omega) (by omega)]; omega
    have hl := tk2_length i
    have f : fits ((tk2 i).length + List.length ([3, 5] : List Int)) 1 := fits1' (by simp; omega)
    have I := ih n N (i + 1) (by omega) (by omega)
    have hs := set_fill tickO zeroO i m
    have hlen : ((List.replicate i tickO ++ List.replicate (m + 1) zeroO).length : Int) = i + (m + 1) := by simp
    simp only [m_ticketlinelaw04_ScriptLongs_l2, m_ticketlinelaw04_ScriptLongs_l2_b, show (i : Int) < (w : Int) by omega, decide_true, if_true, Int.natCast_nonneg, hlen, show (i : Int) < (i : Int) + ((m : Int) + 1) by omega, if_pos f, w1, Int.toNat_natCast, hs, ← tk2_succ, I]
theorem RB.replicate {x : Int} (h : 0 ≤ x ∧ x < 256) (n : Nat) : RB (List.replicate n x) := fun y hy => by rw [(List.mem_replicate.1 hy).2]; exact h
theorem longs_l0 {k w : Nat} (hk : k ≤ 5000) (hw : w ≤ 3000) {x : Int} (hx : 0 ≤ x ∧ x < 256) : ∀ (m n N i : Nat), 4000 < N → i + m = k → m < n →
    m_ticketlinelaw04_ScriptLongs_l1 N n (k : Int) x (w : Int) (k : Int) i (List.replicate i x ++ List.replicate m 0) = some true := by
  intro m
  induction m with
  | zero =>
    intro n N i hN hm hn
    obtain ⟨n, rfl⟩ : ∃ q, n = q + 1 := ⟨n - 1, by omega⟩
    have hi : i = k := by omega
    subst hi
    rw [show List.replicate i x ++ List.replicate 0 0 = List.replicate i x by simp]
    have hb := RB.replicate hx i
    have hlen : (List.replicate i x).length = i := List.length_replicate
    have hR := ref04_Parse hb (t := 3) (by omega) (by omega)
    have L1 := longs_l1 (w := w) hw w N N 0 (by omega) (by omega)
    have L1 : m_ticketlinelaw04_ScriptLongs_l2 N N (w : Int) (w : Int) 0 (List.replicate w zeroO) [] = some true := L1
    have f : fits w 88 := by unfold fits; omega
    have hz : ((List.replicate w zeroO).length : Int) = w := by simp
    by_cases c : (i : Int) > 4096
    · have P := law_parses hb (t := 3) (by omega) (e := 5) (l := []) (by rw [if_neg (by omega), if_pos (by omega)])
      simp only [m_ticketlinelaw04_ScriptLongs_l1, m_ticketlinelaw04_ScriptLongs_l1_b, show ¬ (i : Int) < (i : Int) by omega, decide_false, Bool.false_eq_true, if_false, c, decide_true, if_true, P, Option.bind_some, Bool.not_true, Int.natCast_nonneg, Int.le_refl, if_pos f, Int.toNat_natCast, hz, L1]
    · have P := law_parses hb (t := 3) (by omega) (e := 0) (l := parseS 3 (List.replicate i x)) (by rw [if_neg (by omega), if_neg (by omega)])
      simp only [m_ticketlinelaw04_ScriptLongs_l1, m_ticketlinelaw04_ScriptLongs_l1_b, show ¬ (i : Int) < (i : Int) by omega, decide_false, Bool.false_eq_true, if_false, c, if_true, hR, P, Option.bind_some, Bool.not_true, Int.natCast_nonneg, Int.le_refl, if_pos f, Int.toNat_natCast, hz, L1]
  | succ m ih =>
    intro n N i hN hm hn
    obtain ⟨n, rfl⟩ : ∃ q, n = q + 1 := ⟨n - 1, by omega⟩
    have w1 : IntKind.i64.wrap ((i : Int) + 1) = ((i + 1 : Nat) : Int) := by rw [wI (by omega) (by omega)]; omega
    have I := ih n N (i + 1) hN (by omega) (by omega)
    have hs := set_fill x 0 i m
    have hlen : ((List.replicate i x ++ List.replicate (m + 1) 0).length : Int) = i + (m + 1) := by simp
    simp only [m_ticketlinelaw04_ScriptLongs_l1, m_ticketlinelaw04_ScriptLongs_l1_b, show (i : Int) < (k : Int) by omega, decide_true, if_true, Int.natCast_nonneg, hlen, show (i : Int) < (i : Int) + ((m : Int) + 1) by omega, w1, Int.toNat_natCast, hs, I]
theorem scriptLongs_true (many x written : Int) (hx : 0 ≤ x ∧ x < 256) : m_ticketlinelaw04_ScriptLongs many x written = some true := by
  unfold m_ticketlinelaw04_ScriptLongs m_ticketlinelaw04_ScriptLongs_a
  by_cases c1 : many < 4094
  · simp only [c1, decide_true, if_true, known04, Option.bind_some]
  by_cases c2 : many > 4098
  · simp only [c1, c2, decide_true, decide_false, Bool.false_eq_true, if_false, if_true, known04, Option.bind_some]
  by_cases c3 : written < 2046
  · simp only [c1, c2, c3, decide_true, decide_false, Bool.false_eq_true, if_false, if_true, known04, Option.bind_some]
  by_cases c4 : written > 2050
  · simp only [c1, c2, c3, c4, decide_true, decide_false, Bool.false_eq_true, if_false, if_true, known04, Option.bind_some]
  obtain ⟨k, rfl⟩ : ∃ k : Nat, many = k := ⟨many.toNat, by omega⟩
  obtain ⟨w, rfl⟩ : ∃ w : Nat, written = w := ⟨written.toNat, by omega⟩
  have L := longs_l0 (k := k) (w := w) (by omega) (by omega) hx k FUEL FUEL 0 (by have := FUEL_big; omega) (by omega) (by have := FUEL_big; omega)
  have L : m_ticketlinelaw04_ScriptLongs_l1 FUEL FUEL (k : Int) x (w : Int) (k : Int) 0 (List.replicate k 0) = some true := L
  have f : fits k 1 := by unfold fits; omega
  have hz : ((List.replicate k (0 : Int)).length : Int) = k := by simp
  simp only [c1, c2, c3, c4, decide_false, Bool.false_eq_true, if_false, m_ticketlinelaw04_ScriptLongs_l0_b, m_ticketlinelaw04_ScriptLongs_l0, Int.natCast_nonneg, if_true, Int.le_refl, if_pos f, Int.toNat_natCast, hz, L]
end Go.Ev.L.T4
