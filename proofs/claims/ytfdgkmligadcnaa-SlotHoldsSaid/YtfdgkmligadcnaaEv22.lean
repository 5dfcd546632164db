/- Regions: the operations in their order, and in every order. -/
import Derived.Test.YtfdgkmligadcnaaEv21
set_option linter.unusedVariables false
set_option linter.unusedSimpArgs false
namespace Go.Ev
open Go

/-- what the theorems ask of a program's tables -/
structure CxOK (P : Program) (C : Cx) : Prop where
  D : DOk P C
  Ds : ∀ T e, ((C.D T).k = .sl e ∨ ∃ m, (C.D T).k = .arr m e) → (C.D e).k ≠ .other
  G : ∀ f g, C.G f = some g → Meets P f g

structure Same (s s' : St) : Prop where
  n : s'.n = s.n
  t : ∀ x, s'.t x = s.t x
  o : ∀ x, s'.o x = s.o x
theorem Same.refl (s : St) : Same s s := ⟨rfl, fun _ => rfl, fun _ => rfl⟩
theorem Same.symm {s t : St} (h : Same s t) : Same t s := ⟨h.n.symm, fun x => (h.t x).symm, fun x => (h.o x).symm⟩
theorem Same.trans {s t u : St} (h : Same s t) (k : Same t u) : Same s u := ⟨k.n.trans h.n, fun x => (k.t x).trans (h.t x), fun x => (k.o x).trans (h.o x)⟩
theorem Same.setT {s t : St} (h : Same s t) (d : Nat) (v : AV) : Same (s.setT d v) (t.setT d v) :=
  ⟨h.n, fun x => by rw [St.setT_t, St.setT_t]; split; rfl; exact h.t x, h.o⟩
theorem Same.setO {s t : St} (h : Same s t) (d : Nat) (v : AV) : Same (s.setO d v) (t.setO d v) :=
  ⟨h.n, h.t, fun x => by rw [St.setO_o, St.setO_o]; split; rfl; exact h.o x⟩
theorem Same.know {s t : St} (h : Same s t) {d : Nat} {v : AV} (hv : s.t d = v) : Same s (t.setT d v) :=
  ⟨h.n, fun x => by rw [St.setT_t]; split; (rename_i e; subst e; exact hv.symm); exact h.t x, h.o⟩

theorem Rep.same {W0 : World} {F0 : Base} {ρ : Nat → Option Loc} {s s' : St} {a : Act} {w : World} (h : Rep W0 F0 ρ s a w) (hs : Same s s') : Rep W0 F0 ρ s' a w := h.congr hs.n hs.t (funext hs.o)

theorem runK_out {α R : Type} {r : R} : ∀ {p : Pg α} {s s0 : St} {k : α → St → Option R}, Same s0 s → p.runK s k = some r → ∃ v s1 s1', p.Out s0 v s1 ∧ Same s1 s1' ∧ k v s1' = some r := by
  intro p
  induction p with
  | ret v => intro s s0 k hs h; exact ⟨v, s0, s, ⟨rfl, rfl⟩, hs, h⟩
  | fail => intro s s0 k hs h; simp [Pg.runK] at h
  | rdT t f ih => intro s s0 k hs h; simp only [Pg.runK] at h; rw [hs.t t] at h; exact ih _ hs h
  | rdO o f ih =>
    intro s s0 k hs h
    simp only [Pg.runK] at h
    rw [hs.o o] at h
    cases hc : s0.o o with
    | none => rw [hc] at h; simp at h
    | some c =>
      rw [hc] at h
      cases hd : c.dead with
      | true => simp [hd] at h
      | false =>
        simp only [hd, cond_false] at h
        obtain ⟨v, s1, s1', h1, h2, h3⟩ := ih c hs h
        exact ⟨v, s1, s1', ⟨c, hc, hd, h1⟩, h2, h3⟩
  | wrO o c p ih =>
    intro s s0 k hs h
    simp only [Pg.runK] at h
    rw [hs.o o] at h
    cases hc : s0.o o with
    | none => rw [hc] at h; simp at h
    | some d =>
      rw [hc] at h
      obtain ⟨v, s1, s1', h1, h2, h3⟩ := ih (hs.setO o c) h
      exact ⟨v, s1, s1', ⟨⟨d, hc⟩, h1⟩, h2, h3⟩
  | new o c p ih =>
    intro s s0 k hs h
    simp only [Pg.runK] at h
    rw [hs.o o] at h
    cases hc : s0.o o with
    | some d => rw [hc] at h; simp at h
    | none =>
      rw [hc] at h
      obtain ⟨v, s1, s1', h1, h2, h3⟩ := ih (hs.setO o c) h
      exact ⟨v, s1, s1', ⟨hc, h1⟩, h2, h3⟩
  | br t p q ihp ihq =>
    intro s s0 k hs h
    simp only [Pg.runK] at h
    split at h
    · rename_i b hb
      rw [hs.t t] at hb
      cases b with
      | true =>
        obtain ⟨v, s1, s1', h1, h2, h3⟩ := ihp (hs.know hb) h
        exact ⟨v, s1, s1', ⟨true, hb, h1⟩, h2, h3⟩
      | false =>
        obtain ⟨v, s1, s1', h1, h2, h3⟩ := ihq (hs.know hb) h
        exact ⟨v, s1, s1', ⟨false, hb, h1⟩, h2, h3⟩
    · simp at h
  | test c d p ih =>
    intro s s0 k hs h
    simp only [Pg.runK] at h
    by_cases hc : c
    · rw [if_pos hc] at h
      obtain ⟨v, s1, s1', h1, h2, h3⟩ := ih hs h
      exact ⟨v, s1, s1', ⟨hc, h1⟩, h2, h3⟩
    · rw [if_neg hc] at h; simp at h
  | bind T m f ih =>
    intro s s0 k hs h
    simp only [Pg.runK] at h
    cases m with
    | none => simp at h
    | some x =>
      obtain ⟨v, s1, s1', h1, h2, h3⟩ := ih x hs h
      exact ⟨v, s1, s1', ⟨x, rfl, h1⟩, h2, h3⟩
  | opt T m p f ihp ihf =>
    intro s s0 k hs h
    cases m with
    | none =>
      have h : p.runK s k = some r := h
      obtain ⟨v, s1, s1', h1, h2, h3⟩ := ihp hs h
      exact ⟨v, s1, s1', .inl ⟨rfl, h1⟩, h2, h3⟩
    | some x =>
      have h : (f x).runK s k = some r := h
      obtain ⟨v, s1, s1', h1, h2, h3⟩ := ihf x hs h
      exact ⟨v, s1, s1', .inr ⟨x, rfl, h1⟩, h2, h3⟩

section
variable {P : Program} {C : Cx} {W0 : World} {F0 : Base} {ρ : Nat → Option Loc} {s s' : St} {a : Act} {w : World}

theorem leads_op (hC : CxOK P C) (h : Rep W0 F0 ρ s a w) {o : Oper} {v : AV} (ho : (opPg C o).Out s v s') : Leads P W0 F0 o a w v s' := by
  by_cases hc : ∃ c f, o.op = .call c ∧ c.callee = .value (.func f)
  · obtain ⟨c, f, hop, hcal⟩ := hc
    unfold opPg at ho
    rw [hop] at ho
    dsimp only at ho
    rw [hcal] at ho
    dsimp only at ho
    split at ho
    · rename_i g hg
      obtain ⟨vs, hvs, ho⟩ := out_rdXs h ho
      exact leads_call (hC.G f g hg) h hop hcal hvs ho
    · exact ho.elim
  · exact (give_op hC.D hC.Ds h (fun c f h1 h2 => hc ⟨c, f, h1, h2⟩) ho).leads

theorem val_undef (E : Env) : Val E (.tup .nl) undef := .inr ⟨.nl, #[], rfl, rfl, rfl⟩
theorem val_undef_eq {E : Env} {u : Value} (h : Val E (.tup .nl) u) : u = undef := by
  rcases h with (h | ⟨h, _⟩ | ⟨_, h, _⟩) | ⟨c, us, h1, h2, h3⟩
  · cases h
  · simp [AV.agg] at h
  · simp [AV.sh] at h
  · cases h1
    have h3 : us.toList = [] := h3
    rw [h2]
    have : us = #[] := by cases us; simpa using h3
    rw [this]; rfl

theorem yields_not {W0 : World} {F0 : Base} {ρ : Nat → Option Loc} {s : St} {a : Act} {w : World} {ops : Array Oper} (h : Rep W0 F0 ρ s a w) {j t : Nat} (hj : dstOf ops.toList j = some t) (hb : s.t t = .tup .nl) : yielded ops a.tmps j = none := by
  have ht := h.tm t
  rw [hb] at ht
  have e := val_undef_eq ht
  unfold dstOf at hj
  unfold yielded
  rw [Array.getElem?_toList] at hj
  cases ho : ops[j]? with
  | none => rw [ho] at hj; simp at hj
  | some o =>
    rw [ho] at hj
    have hj : o.dst = some t := hj
    by_cases hlt : t < a.tmps.size
    · simp [Array.getD, hlt] at e
      simp [hj, hlt, e, undef]
    · simp [hj, hlt]

theorem undef_ne_bool (b : Bool) : undef ≠ Value.bool b := by simp [undef]

theorem yields {ops : Array Oper} (h : Rep W0 F0 ρ s a w) {j t : Nat} {b : Bool} (hj : dstOf ops.toList j = some t) (hb : s.t t = .bool b) : yielded ops a.tmps j = some b := by
  have ht := h.tm t
  rw [hb] at ht
  have e : a.tmps.getD t undef = .bool b := ht.bool_eq
  have e2 : a.tmps[t]? = some (.bool b) := by
    by_cases hlt : t < a.tmps.size
    · simp [Array.getD, hlt] at e
      simp [hlt, e]
    · simp [Array.getD, hlt] at e
      exact absurd e (undef_ne_bool b)
  unfold dstOf at hj
  unfold yielded
  rw [Array.getElem?_toList] at hj
  cases ho : ops[j]? with
  | none => rw [ho] at hj; simp at hj
  | some o => 
    rw [ho] at hj
    have hj : o.dst = some t := hj
    simp [hj, e2]

/-- one operation of a region, its guard looked at, its place written -/
def StepTo (C : Cx) (ops : List Oper) (o : Oper) (s s2 : St) : Prop := ∃ v s1, (guardPg ops o (opPg C o)).Out s v s1 ∧ putDst o v s1 = some s2

theorem put_rep {o : Oper} {v : AV} {s1 s2 : St} {u : Value} (h : Rep W0 F0 ρ s1 a w) (hv : Val ⟨w, s1.o, ρ⟩ v u) (hp : putDst o v s1 = some s2) : Rep W0 F0 ρ s2 (a.put o.dst u) w := by
  unfold putDst at hp
  cases hd : o.dst with
  | none => rw [hd] at hp; simp at hp; subst hp; exact h
  | some d =>
    rw [hd] at hp
    dsimp only at hp
    cases hlt : Nat.blt d s1.n with
    | false => simp [hlt] at hp
    | true =>
      simp [hlt] at hp
      subst hp
      exact h.setT (by simpa using hlt) hv

theorem step_wp (hC : CxOK P C) (h : Rep W0 F0 ρ s a w) {ops : Array Oper} {o : Oper} {s2 : St} (hs : StepTo C ops.toList o s s2) {K : Act → World → Prop} {Q : Exit → Act → World → Prop}
    (hK : ∀ a' w' ρ', Rep W0 F0 ρ' s2 a' w' → K a' w') : if Region.wanted o (yielded ops a.tmps) then o.wp P a w K Q else K (a.put o.dst undef) w := by
  obtain ⟨v, s1, ho, hp⟩ := hs
  have go : (opPg C o).Out s v s1 → o.wp P a w K Q := fun ho => leads_op hC h ho K Q fun u w' ρ' hr hv => hK _ _ ρ' (put_rep hr hv hp)
  unfold guardPg at ho
  unfold Region.wanted
  cases hg : o.guard with
  | none => rw [hg] at ho; simp only [if_true]; exact go ho
  | some gd =>
    obtain ⟨j, want⟩ := gd
    rw [hg] at ho
    dsimp only at ho
    cases hd : dstOf ops.toList j with
    | none => rw [hd] at ho; exact ho.elim
    | some t =>
      rw [hd] at ho
      dsimp only at ho
      have skip : (∃ b, s.t t = .bool b ∧ b ≠ want) → v = .tup .nl ∧ s1 = s → (if (yielded ops a.tmps j == some want) = true then o.wp P a w K Q else K (a.put o.dst undef) w) := by
        rintro ⟨b, hb, hne⟩ ⟨rfl, rfl⟩
        rw [yields h hd hb, if_neg (by simpa using hne)]
        exact hK _ _ ρ (put_rep h (val_undef _) hp)
      have run : s.t t = .bool want → (opPg C o).Out s v s1 → (if (yielded ops a.tmps j == some want) = true then o.wp P a w K Q else K (a.put o.dst undef) w) := by
        intro hb ho
        rw [yields h hd hb, if_pos (by simp)]
        exact go ho
      simp only [Pg.Out] at ho
      split at ho
      · rename_i hst
        obtain ⟨rfl, rfl⟩ := ho
        have hy := yields_not h hd hst
        rw [if_neg (by simp [hy])]
        exact hK _ _ ρ (put_rep h (val_undef _) hp)
      cases want with
      | true =>
        simp only [if_true] at ho
        obtain ⟨b, hb, ho⟩ := ho
        cases b with
        | true => exact run hb ho
        | false => exact skip ⟨false, hb, by simp⟩ ho
      | false =>
        simp only [Bool.false_eq_true, if_false] at ho
        obtain ⟨b, hb, ho⟩ := ho
        cases b with
        | true => exact skip ⟨true, hb, by simp⟩ ho
        | false => exact run hb ho

theorem opsK_wp (hC : CxOK P C) {ops : Array Oper} {R : Type} {r : R} {k : St → Option R} {Q : Exit → Act → World → Prop}
    (hQ : ∀ s' a' w' ρ', Rep W0 F0 ρ' s' a' w' → k s' = some r → Q .normal a' w') : ∀ {l : List Oper} {s : St} {a : Act} {w : World} {ρ : Nat → Option Loc}, Rep W0 F0 ρ s a w → opsK C ops.toList l s k = some r → wpList P ops Q l a w := by
  intro l
  induction l with
  | nil => intro s a w ρ h hk; exact hQ s a w ρ h hk
  | cons o l ih =>
    intro s a w ρ h hk
    simp only [opsK] at hk
    obtain ⟨v, s1, s1', ho, hs, hk⟩ := runK_out (Same.refl s) hk
    cases hp : putDst o v s1' with
    | none => rw [hp] at hk; simp at hk
    | some s2 =>
      rw [hp] at hk
      dsimp only at hk
      have hp' : ∃ s2', putDst o v s1 = some s2' ∧ Same s2' s2 := by
        unfold putDst at hp ⊢
        cases hd : o.dst with
        | none => rw [hd] at hp; simp at hp; subst hp; exact ⟨s1, rfl, hs⟩
        | some d =>
          rw [hd] at hp
          dsimp only at hp ⊢
          rw [hs.n] at hp
          cases hlt : Nat.blt d s1.n with
          | false => simp [hlt] at hp
          | true => simp [hlt] at hp; subst hp; exact ⟨_, by simp [hlt], hs.setT d v⟩
      obtain ⟨s2', hp', hs2⟩ := hp'
      have := step_wp hC h (ops := ops) (Q := Q) (K := wpList P ops Q l) ⟨v, s1, ho, hp'⟩ fun a' w' ρ' hr => ih (hr.same hs2) hk
      unfold wpList
      by_cases hw : Region.wanted o (yielded ops a.tmps) = true
      · rw [if_pos hw] at this; simp only [hw, if_true]; exact .inl this
      · rw [if_neg hw] at this; simp only [hw]; exact this
end
end Go.Ev
