/- Seat 04: ScriptWrites, ScriptLongs. -/
import Derived.Test.YtefbnamginihkaaT6
set_option linter.unusedVariables false
set_option linter.unusedSimpArgs false
set_option maxRecDepth 10000
namespace Go.Ev.L.T4
open Go Go.Ev Go.Ev.M Go.Ev.L

def encO (o : Op4) : Option (List Int) := encS o.1 o.2.1 o.2.2.1 o.2.2.2.1 o.2.2.2.2.1 o.2.2.2.2.2.1 o.2.2.2.2.2.2.1 o.2.2.2.2.2.2.2.1
theorem bytes_O (o : Op4) : Says (m_script_bytes o) (encO o) := by obtain ⟨a1, a2, a3, a4, a5, a6, a7, a8, au⟩ := o; exact script_bytes a1 a2 a3 a4 a5 a6 a7 a8
theorem valid_O (o : Op4) : m_script_Valid o = some (encO o).isSome := by obtain ⟨a1, a2, a3, a4, a5, a6, a7, a8, au⟩ := o; exact script_Valid a1 a2 a3 a4 a5 a6 a7 a8
theorem encO_len {o : Op4} {b : List Int} (h : encO o = some b) : b.length ≤ 5 := by
  obtain ⟨bs, _, h2, h3⟩ := bytes_O o
  rw [← h3 b h]; exact h2
def encAll : List Op4 → Option (List Int)
  | [] => some []
  | o :: l => match encO o with
    | none => none
    | some a => (encAll l).map fun b => a ++ b
def endS (x : Option (List Int)) : List Int × Int := match x with
  | none => ([], 2)
  | some b => if 4096 < b.length then ([], 5) else (b, 0)
theorem fits1' {n m : Nat} (h : n + m ≤ 1000000) : fits (n + m) 1 := by unfold fits; omega
theorem write_l0 {l : List Op4} (hl : l.length ≤ 10000) : ∀ (m n N i : Nat) (out : List Int), i + m = l.length → m < n → out.length ≤ 5 * i →
    m_script_Write_l0 N n l (l.length : Int) i out = some (endS ((encAll (l.drop i)).map fun b => out ++ b)) := by
  intro m
  induction m with
  | zero =>
    intro n N i out hm hn ho
    obtain ⟨n, rfl⟩ : ∃ q, n = q + 1 := ⟨n - 1, by omega⟩
    rw [List.drop_of_length_le (by omega)]
    simp only [m_script_Write_l0, m_script_Write_l0_b, show ¬ (i : Int) < (l.length : Int) by omega, decide_false, Bool.false_eq_true, if_false, encAll, Option.map_some, List.append_nil, endS]
    by_cases c : 4096 < out.length
    · simp only [show (out.length : Int) > 4096 by omega, decide_true, if_true, if_pos c]
    · simp only [show ¬ (out.length : Int) > 4096 by omega, decide_false, Bool.false_eq_true, if_false, if_neg c]
  | succ m ih =>
    intro n N i out hm hn ho
    obtain ⟨n, rfl⟩ : ∃ q, n = q + 1 := ⟨n - 1, by omega⟩
    have hd : l.drop i = l[i] :: l.drop (i + 1) := List.drop_eq_getElem_cons (by omega)
    have hr := rd_op (l := l) (i := i) (by omega)
    have w : IntKind.i64.wrap ((i : Int) + 1) = ((i + 1 : Nat) : Int) := by rw [wI (by omega) (by omega)]; omega
    obtain ⟨bs, b1, b2, b3⟩ := bytes_O l[i]
    rw [hd]
    cases e : encO l[i] with
    | none =>
      rw [e] at b1
      simp only [m_script_Write_l0, m_script_Write_l0_b, show (i : Int) < (l.length : Int) by omega, decide_true, if_true, Int.natCast_nonneg, hr, b1, Option.bind_some, Option.isSome_none, Bool.not_false, encAll, e, Option.map_none, endS]
    | some a =>
      rw [e] at b1
      have := b3 a e
      subst this
      have f : fits (out.length + bs.length) 1 := fits1' (by omega)
      have I := ih n N (i + 1) (out ++ bs) (by omega) (by omega) (by rw [List.length_append]; omega)
      simp only [m_script_Write_l0, m_script_Write_l0_b, show (i : Int) < (l.length : Int) by omega, decide_true, if_true, Int.natCast_nonneg, hr, b1, Option.bind_some, Option.isSome_some, Bool.not_true, Bool.false_eq_true, if_false, if_pos f, w, I, encAll, e]
      cases encAll (l.drop (i + 1)) with
      | none => rfl
      | some b => simp only [Option.map_some, List.append_assoc]
theorem script_Write {l : List Op4} (hl : l.length ≤ 10000) : m_script_Write l = some (endS (encAll l)) := by
  have L := write_l0 hl l.length FUEL FUEL 0 [] (by omega) (by have := FUEL_big; omega) (by simp)
  refine Eq.trans L ?_
  rw [List.drop_zero]
  cases encAll l with
  | none => rfl
  | some b => rfl
theorem RB.replicate {x : Int} (h : 0 ≤ x ∧ x < 256) (n : Nat) : RB (List.replicate n x) := fun y hy => by rw [(List.mem_replicate.1 hy).2]; exact h
end Go.Ev.L.T4
