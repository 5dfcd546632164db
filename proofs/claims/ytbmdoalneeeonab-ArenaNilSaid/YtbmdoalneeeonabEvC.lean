/- Regions whose order is drawn: operations that do not meet may change places. -/
import Derived.Test.YtbmdoalneeeonabEvB
import Derived.Laws.Externs
set_option linter.unusedVariables false
set_option linter.unusedSimpArgs false
namespace Go.Ev
open Go

/-- what a program of reads and writes comes to, with its footprint -/
def Pg.Foot {α : Type} (s : St) : Pg α → α → St → Ft → Ft → Prop
  | .ret v, u, s', f, f' => u = v ∧ s' = s ∧ f' = f
  | .fail, _, _, _, _ => False
  | .rdT t g, u, s', f, f' => (g (s.t t)).Foot s u s' { f with rt := t :: f.rt } f'
  | .rdO o g, u, s', f, f' => ∃ c, s.o o = some c ∧ c.dead = false ∧ (g c).Foot s u s' { f with ro := o :: f.ro } f'
  | .wrO o c p, u, s', f, f' => (∃ d, s.o o = some d) ∧ p.Foot (s.setO o c) u s' { f with wo := o :: f.wo } f'
  | .new o c p, u, s', f, f' => s.o o = none ∧ p.Foot (s.setO o c) u s' { f with wo := o :: f.wo } f'
  | .br t p q, u, s', f, f' => ∃ b, s.t t = .bool b ∧ (if b then p.Foot s u s' { f with rt := t :: f.rt } f' else q.Foot s u s' { f with rt := t :: f.rt } f')
  | .test c d p, u, s', f, f' => c ∧ p.Foot s u s' f f'
  | .bind _ m g, u, s', f, f' => ∃ r, m = some r ∧ (g r).Foot s u s' f f'
  | .opt _ m p g, u, s', f, f' => (m = none ∧ p.Foot s u s' f f') ∨ ∃ r, m = some r ∧ (g r).Foot s u s' f f'
  | .sel b p q, u, s', f, f' => if b then p.Foot s u s' f f' else q.Foot s u s' f f'

theorem runF_foot {α R : Type} {r : R} : ∀ {p : Pg α} {s s0 : St} {f : Ft} {k : α → St → Ft → Option R}, Same s0 s → p.runF s f k = some r → ∃ v s1 s1' f', p.Foot s0 v s1 f f' ∧ Same s1 s1' ∧ k v s1' f' = some r := by
  intro p
  induction p with
  | ret v => intro s s0 f k hs h; exact ⟨v, s0, s, f, ⟨rfl, rfl, rfl⟩, hs, h⟩
  | fail => intro s s0 f k hs h; simp [Pg.runF] at h
  | rdT t g ih => intro s s0 f k hs h; simp only [Pg.runF] at h; rw [hs.t t] at h; exact ih _ hs h
  | rdO o g ih =>
    intro s s0 f k hs h
    simp only [Pg.runF] at h
    rw [hs.o o] at h
    cases hc : s0.o o with
    | none => rw [hc] at h; simp at h
    | some c =>
      rw [hc] at h
      cases hd : c.dead with
      | true => simp [hd] at h
      | false =>
        simp only [hd, cond_false] at h
        obtain ⟨v, s1, s1', f', h1, h2, h3⟩ := ih c hs h
        exact ⟨v, s1, s1', f', ⟨c, hc, hd, h1⟩, h2, h3⟩
  | wrO o c p ih =>
    intro s s0 f k hs h
    simp only [Pg.runF] at h
    rw [hs.o o] at h
    cases hc : s0.o o with
    | none => rw [hc] at h; simp at h
    | some d =>
      rw [hc] at h
      obtain ⟨v, s1, s1', f', h1, h2, h3⟩ := ih (hs.setO o c) h
      exact ⟨v, s1, s1', f', ⟨⟨d, hc⟩, h1⟩, h2, h3⟩
  | new o c p ih =>
    intro s s0 f k hs h
    simp only [Pg.runF] at h
    rw [hs.o o] at h
    cases hc : s0.o o with
    | some d => rw [hc] at h; simp at h
    | none =>
      rw [hc] at h
      obtain ⟨v, s1, s1', f', h1, h2, h3⟩ := ih (hs.setO o c) h
      exact ⟨v, s1, s1', f', ⟨hc, h1⟩, h2, h3⟩
  | br t p q ihp ihq =>
    intro s s0 f k hs h
    simp only [Pg.runF] at h
    split at h
    · rename_i b hb
      rw [hs.t t] at hb
      cases b with
      | true =>
        obtain ⟨v, s1, s1', f', h1, h2, h3⟩ := ihp (hs.know hb) h
        exact ⟨v, s1, s1', f', ⟨true, hb, h1⟩, h2, h3⟩
      | false =>
        obtain ⟨v, s1, s1', f', h1, h2, h3⟩ := ihq (hs.know hb) h
        exact ⟨v, s1, s1', f', ⟨false, hb, h1⟩, h2, h3⟩
    · simp at h
  | test c d p ih =>
    intro s s0 f k hs h
    simp only [Pg.runF] at h
    by_cases hc : c
    · rw [if_pos hc] at h
      obtain ⟨v, s1, s1', f', h1, h2, h3⟩ := ih hs h
      exact ⟨v, s1, s1', f', ⟨hc, h1⟩, h2, h3⟩
    · rw [if_neg hc] at h; simp at h
  | bind T m g ih =>
    intro s s0 f k hs h
    simp only [Pg.runF] at h
    cases m with
    | none => simp at h
    | some x =>
      obtain ⟨v, s1, s1', f', h1, h2, h3⟩ := ih x hs h
      exact ⟨v, s1, s1', f', ⟨x, rfl, h1⟩, h2, h3⟩
  | opt T m p g ihp ihf =>
    intro s s0 f k hs h
    cases m with
    | none =>
      have h : p.runF s f k = some r := h
      obtain ⟨v, s1, s1', f', h1, h2, h3⟩ := ihp hs h
      exact ⟨v, s1, s1', f', .inl ⟨rfl, h1⟩, h2, h3⟩
    | some x =>
      have h : (g x).runF s f k = some r := h
      obtain ⟨v, s1, s1', f', h1, h2, h3⟩ := ihf x hs h
      exact ⟨v, s1, s1', f', .inr ⟨x, rfl, h1⟩, h2, h3⟩
  | sel b p q ihp ihq =>
    intro s s0 f k hs h
    cases b with
    | true =>
      obtain ⟨v, s1, s1', f', h1, h2, h3⟩ := ihp hs h
      exact ⟨v, s1, s1', f', h1, h2, h3⟩
    | false =>
      obtain ⟨v, s1, s1', f', h1, h2, h3⟩ := ihq hs h
      exact ⟨v, s1, s1', f', h1, h2, h3⟩

theorem foot_out {α : Type} : ∀ {p : Pg α} {s : St} {v : α} {s' : St} {f f' : Ft}, p.Foot s v s' f f' → p.Out s v s' := by
  intro p
  induction p with
  | ret v => intro s v s' f f' h; exact ⟨h.1, h.2.1⟩
  | fail => intro s v s' f f' h; exact h
  | rdT t g ih => intro s v s' f f' h; exact ih _ h
  | rdO o g ih => intro s v s' f f' h; obtain ⟨c, h1, h2, h3⟩ := h; exact ⟨c, h1, h2, ih c h3⟩
  | wrO o c p ih => intro s v s' f f' h; exact ⟨h.1, ih h.2⟩
  | new o c p ih => intro s v s' f f' h; exact ⟨h.1, ih h.2⟩
  | br t p q ihp ihq =>
    intro s v s' f f' h
    obtain ⟨b, hb, h⟩ := h
    refine ⟨b, hb, ?_⟩
    cases b with
    | true => exact ihp h
    | false => exact ihq h
  | test c d p ih => intro s v s' f f' h; exact ⟨h.1, ih h.2⟩
  | bind T m g ih => intro s v s' f f' h; obtain ⟨x, h1, h2⟩ := h; exact ⟨x, h1, ih x h2⟩
  | opt T m p g ihp ihf =>
    intro s v s' f f' h
    rcases h with ⟨h1, h2⟩ | ⟨x, h1, h2⟩
    · exact .inl ⟨h1, ihp h2⟩
    · exact .inr ⟨x, h1, ihf x h2⟩
  | sel b p q ihp ihq =>
    intro s v s' f f' h
    cases b with
    | true => exact ihp h
    | false => exact ihq h

structure Grows (f f' : Ft) : Prop where
  rt : ∀ x, x ∈ f.rt → x ∈ f'.rt
  ro : ∀ x, x ∈ f.ro → x ∈ f'.ro
  wo : ∀ x, x ∈ f.wo → x ∈ f'.wo
  wt : f'.wt = f.wt
theorem Grows.refl (f : Ft) : Grows f f := ⟨fun _ h => h, fun _ h => h, fun _ h => h, rfl⟩

theorem foot_grows {α : Type} : ∀ {p : Pg α} {s : St} {v : α} {s' : St} {f f' : Ft}, p.Foot s v s' f f' → Grows f f' := by
  intro p
  induction p with
  | ret v => intro s v s' f f' h; rw [h.2.2]; exact Grows.refl f
  | fail => intro s v s' f f' h; exact h.elim
  | rdT t g ih => intro s v s' f f' h; have := ih _ h; exact ⟨fun x hx => this.rt x (List.mem_cons_of_mem _ hx), this.ro, this.wo, this.wt⟩
  | rdO o g ih => intro s v s' f f' h; obtain ⟨c, h1, h2, h3⟩ := h; have := ih c h3; exact ⟨this.rt, fun x hx => this.ro x (List.mem_cons_of_mem _ hx), this.wo, this.wt⟩
  | wrO o c p ih => intro s v s' f f' h; have := ih h.2; exact ⟨this.rt, this.ro, fun x hx => this.wo x (List.mem_cons_of_mem _ hx), this.wt⟩
  | new o c p ih => intro s v s' f f' h; have := ih h.2; exact ⟨this.rt, this.ro, fun x hx => this.wo x (List.mem_cons_of_mem _ hx), this.wt⟩
  | br t p q ihp ihq =>
    intro s v s' f f' h
    obtain ⟨b, hb, h⟩ := h
    cases b with
    | true => have := ihp h; exact ⟨fun x hx => this.rt x (List.mem_cons_of_mem _ hx), this.ro, this.wo, this.wt⟩
    | false => have := ihq h; exact ⟨fun x hx => this.rt x (List.mem_cons_of_mem _ hx), this.ro, this.wo, this.wt⟩
  | test c d p ih => intro s v s' f f' h; exact ih h.2
  | bind T m g ih => intro s v s' f f' h; obtain ⟨x, h1, h2⟩ := h; exact ih x h2
  | opt T m p g ihp ihf =>
    intro s v s' f f' h
    rcases h with ⟨h1, h2⟩ | ⟨x, h1, h2⟩
    · exact ihp h2
    · exact ihf x h2
  | sel b p q ihp ihq =>
    intro s v s' f f' h
    cases b with
    | true => exact ihp h
    | false => exact ihq h

/-- two states that agree where a footprint looks -/
structure Agree (f : Ft) (s t : St) : Prop where
  rt : ∀ x, x ∈ f.rt → s.t x = t.t x
  ro : ∀ x, x ∈ f.ro → s.o x = t.o x
  wo : ∀ x, x ∈ f.wo → s.o x = t.o x

theorem Agree.setO {f : Ft} {s t : St} (h : Agree f s t) (o : Nat) (c : AV) : Agree f (s.setO o c) (t.setO o c) :=
  ⟨h.rt, fun x hx => by rw [St.setO_o, St.setO_o]; split; rfl; exact h.ro x hx, fun x hx => by rw [St.setO_o, St.setO_o]; split; rfl; exact h.wo x hx⟩

theorem foot_local {α : Type} : ∀ {p : Pg α} {s t : St} {v : α} {s' : St} {f f' : Ft}, p.Foot s v s' f f' → Agree f' s t →
    ∃ t', p.Foot t v t' f f' ∧ t'.n = t.n ∧ (∀ x, t'.t x = t.t x) ∧ Agree f' s' t' ∧ ∀ o, o ∉ f'.wo → t'.o o = t.o o := by
  intro p
  induction p with
  | ret v => intro s t v s' f f' h hA; obtain ⟨rfl, rfl, rfl⟩ := h; exact ⟨t, ⟨rfl, rfl, rfl⟩, rfl, fun _ => rfl, hA, fun _ _ => rfl⟩
  | fail => intro s t v s' f f' h hA; exact h.elim
  | rdT x g ih =>
    intro s t v s' f f' h hA
    have h : (g (s.t x)).Foot s v s' _ f' := h
    rw [hA.rt x ((foot_grows h).rt x (List.mem_cons_self ..))] at h
    obtain ⟨t', h1, h2⟩ := ih _ h hA
    exact ⟨t', h1, h2⟩
  | rdO o g ih =>
    intro s t v s' f f' h hA
    obtain ⟨c, h1, h2, h3⟩ := h
    obtain ⟨t', g1, g2⟩ := ih c h3 hA
    exact ⟨t', ⟨c, by rw [← hA.ro o ((foot_grows h3).ro o (List.mem_cons_self ..))]; exact h1, h2, g1⟩, g2⟩
  | wrO o c p ih =>
    intro s t v s' f f' h hA
    obtain ⟨⟨d, h1⟩, h3⟩ := h
    have hm := (foot_grows h3).wo o (List.mem_cons_self ..)
    obtain ⟨t', g1, g2, g3, g4, g5⟩ := ih h3 (hA.setO o c)
    refine ⟨t', ⟨⟨d, by rw [← hA.wo o hm]; exact h1⟩, g1⟩, g2, g3, g4, fun x hx => ?_⟩
    rw [g5 x hx, St.setO_o, if_neg (fun e : o = x => hx (e ▸ hm))]
  | new o c p ih =>
    intro s t v s' f f' h hA
    obtain ⟨h1, h3⟩ := h
    have hm := (foot_grows h3).wo o (List.mem_cons_self ..)
    obtain ⟨t', g1, g2, g3, g4, g5⟩ := ih h3 (hA.setO o c)
    refine ⟨t', ⟨by rw [← hA.wo o hm]; exact h1, g1⟩, g2, g3, g4, fun x hx => ?_⟩
    rw [g5 x hx, St.setO_o, if_neg (fun e : o = x => hx (e ▸ hm))]
  | br x p q ihp ihq =>
    intro s t v s' f f' h hA
    obtain ⟨b, hb, h⟩ := h
    cases b with
    | true =>
      have h : p.Foot s v s' _ f' := h
      obtain ⟨t', g1, g2⟩ := ihp h hA
      exact ⟨t', ⟨true, by rw [← hA.rt x ((foot_grows h).rt x (List.mem_cons_self ..))]; exact hb, g1⟩, g2⟩
    | false =>
      have h : q.Foot s v s' _ f' := h
      obtain ⟨t', g1, g2⟩ := ihq h hA
      exact ⟨t', ⟨false, by rw [← hA.rt x ((foot_grows h).rt x (List.mem_cons_self ..))]; exact hb, g1⟩, g2⟩
  | test c d p ih => intro s t v s' f f' h hA; obtain ⟨t', g1, g2⟩ := ih h.2 hA; exact ⟨t', ⟨h.1, g1⟩, g2⟩
  | bind T m g ih => intro s t v s' f f' h hA; obtain ⟨x, h1, h2⟩ := h; obtain ⟨t', g1, g2⟩ := ih x h2 hA; exact ⟨t', ⟨x, h1, g1⟩, g2⟩
  | opt T m p g ihp ihf =>
    intro s t v s' f f' h hA
    rcases h with ⟨h1, h2⟩ | ⟨x, h1, h2⟩
    · obtain ⟨t', g1, g2⟩ := ihp h2 hA; exact ⟨t', .inl ⟨h1, g1⟩, g2⟩
    · obtain ⟨t', g1, g2⟩ := ihf x h2 hA; exact ⟨t', .inr ⟨x, h1, g1⟩, g2⟩
  | sel b p q ihp ihq =>
    intro s t v s' f f' h hA
    cases b with
    | true => obtain ⟨t', g1, g2⟩ := ihp h hA; exact ⟨t', g1, g2⟩
    | false => obtain ⟨t', g1, g2⟩ := ihq h hA; exact ⟨t', g1, g2⟩

/-- one operation with its footprint -/
def StepF (C : Cx) (ops : List Oper) (o : Oper) (s s2 : St) (f : Ft) : Prop := ∃ v s1, (guardPg ops o (opPg C o)).Foot s v s1 ⟨[], [], o.dst.toList, []⟩ f ∧ putDst o v s1 = some s2

section
variable {C : Cx} {ops : List Oper} {o p : Oper} {s s1 s2 t : St} {f g : Ft}

theorem StepF.to (h : StepF C ops o s s2 f) : StepTo C ops o s s2 := by
  obtain ⟨v, s1, h1, h2⟩ := h
  exact ⟨v, s1, foot_out h1, h2⟩

/-- the operation from another state -/
theorem StepF.move (h : StepF C ops o s s2 f) (hA : Agree f s t) (hn : t.n = s.n) :
    ∃ t2, StepF C ops o t t2 f ∧ t2.n = t.n ∧ s2.n = s.n ∧ (∀ x, x ∈ f.wt → t2.t x = s2.t x) ∧ (∀ x, x ∉ f.wt → t2.t x = t.t x) ∧ (∀ x, x ∈ f.wo → t2.o x = s2.o x) ∧ (∀ x, x ∉ f.wo → t2.o x = t.o x) ∧
      (∀ x, x ∉ f.wt → s2.t x = s.t x) ∧ (∀ x, x ∉ f.wo → s2.o x = s.o x) := by
  obtain ⟨v, s1, h1, h2⟩ := h
  obtain ⟨t', g1, g2, g3, g4, g5⟩ := foot_local h1 hA
  obtain ⟨q, k1, k2, k3, k4, k5⟩ := foot_local h1 (⟨fun _ _ => rfl, fun _ _ => rfl, fun _ _ => rfl⟩ : Agree f s s)
  have hdet : s1.n = s.n ∧ (∀ x, s1.t x = s.t x) ∧ ∀ x, x ∉ f.wo → s1.o x = s.o x := by
    have : ∀ {α : Type} {p : Pg α} {s : St} {v : α} {s' : St} {f f' : Ft}, p.Foot s v s' f f' → s'.n = s.n ∧ (∀ x, s'.t x = s.t x) ∧ ∀ x, x ∉ f'.wo → s'.o x = s.o x := by
      intro α p
      induction p with
      | ret v => intro s v s' f f' h; obtain ⟨_, rfl, _⟩ := h; exact ⟨rfl, fun _ => rfl, fun _ _ => rfl⟩
      | fail => intro s v s' f f' h; exact h.elim
      | rdT t g ih => intro s v s' f f' h; exact ih _ h
      | rdO o g ih => intro s v s' f f' h; obtain ⟨c, h1, h2, h3⟩ := h; exact ih c h3
      | wrO o c p ih =>
        intro s v s' f f' h
        obtain ⟨a1, a2, a3⟩ := ih h.2
        exact ⟨a1, a2, fun x hx => by rw [a3 x hx, St.setO_o, if_neg (fun e : o = x => hx (e ▸ (foot_grows h.2).wo o (List.mem_cons_self ..)))]⟩
      | new o c p ih =>
        intro s v s' f f' h
        obtain ⟨a1, a2, a3⟩ := ih h.2
        exact ⟨a1, a2, fun x hx => by rw [a3 x hx, St.setO_o, if_neg (fun e : o = x => hx (e ▸ (foot_grows h.2).wo o (List.mem_cons_self ..)))]⟩
      | br t p q ihp ihq =>
        intro s v s' f f' h
        obtain ⟨b, hb, h⟩ := h
        cases b with
        | true => exact ihp h
        | false => exact ihq h
      | test c d p ih => intro s v s' f f' h; exact ih h.2
      | bind T m g ih => intro s v s' f f' h; obtain ⟨x, h1, h2⟩ := h; exact ih x h2
      | opt T m p g ihp ihf =>
        intro s v s' f f' h
        rcases h with ⟨h1, h2⟩ | ⟨x, h1, h2⟩
        · exact ihp h2
        · exact ihf x h2
      | sel b p q ihp ihq =>
        intro s v s' f f' h
        cases b with
        | true => exact ihp h
        | false => exact ihq h
    exact this h1
  obtain ⟨d1, d2, d3⟩ := hdet
  have hwt : f.wt = o.dst.toList := (foot_grows h1).wt
  unfold putDst at h2
  cases hd : o.dst with
  | none =>
    rw [hd] at h2 hwt
    simp at h2; subst h2
    have hno : ∀ x, x ∉ f.wt := by intro x hx; rw [hwt] at hx; simp at hx
    exact ⟨t', ⟨v, t', by rw [hd] at g1 ⊢; exact g1, by simp [putDst, hd]⟩, g2, d1, fun x hx => absurd hx (hno x), fun x _ => g3 x, fun x hx => (g4.wo x hx).symm, g5, fun x _ => d2 x, d3⟩
  | some d =>
    rw [hd] at h2 hwt
    dsimp only at h2
    cases hlt : Nat.blt d s1.n with
    | false => simp [hlt] at h2
    | true =>
      simp [hlt] at h2
      subst h2
      have hm : ∀ x, x ∈ f.wt ↔ x = d := by intro x; rw [hwt]; simp
      refine ⟨t'.setT d v, ⟨v, t', g1, by simp [putDst, hd, g2, hn, ← d1, hlt]⟩, g2, d1, fun x hx => ?_, fun x hx => ?_, fun x hx => (g4.wo x hx).symm, g5, fun x hx => ?_, d3⟩
      · rw [St.setT_t, St.setT_t, if_pos ((hm x).1 hx).symm, if_pos ((hm x).1 hx).symm]
      · rw [St.setT_t, if_neg (fun e => hx ((hm x).2 e.symm))]; exact g3 x
      · rw [St.setT_t, if_neg (fun e => hx ((hm x).2 e.symm))]; exact d2 x

theorem meetN_false {l m : List Nat} (h : meetN l m = false) : ∀ x, x ∈ l → x ∉ m := by
  induction l with
  | nil => intro x hx; simp at hx
  | cons i l ih =>
    intro x hx
    simp only [meetN, Bool.or_eq_false_iff] at h
    rcases List.mem_cons.1 hx with rfl | hx
    · exact memN_false.1 h.1
    · exact ih h.2 x hx

/-- two operations that do not meet change places -/
theorem StepF.swap (h : StepF C ops o s s1 f) (k : StepF C ops p s1 s2 g) (hc : Ft.clash f g = false) : ∃ t1 t2, StepF C ops p s t1 g ∧ StepF C ops o t1 t2 f ∧ Same s2 t2 := by
  simp only [Ft.clash, Bool.or_eq_false_iff] at hc
  obtain ⟨⟨⟨⟨⟨c1, c2⟩, c3⟩, c4⟩, c5⟩, c6⟩ := hc
  obtain ⟨_, _, _, n1, _, _, _, _, a1, a2⟩ := h.move (⟨fun _ _ => rfl, fun _ _ => rfl, fun _ _ => rfl⟩ : Agree f s s) rfl
  have c1 := meetN_false c1
  have c2 := meetN_false c2
  have c3 := meetN_false c3
  have c4 := meetN_false c4
  have c5 := meetN_false c5
  have c6 := meetN_false c6
  obtain ⟨t1, e1, e2, e3, e4, e5, e6, e7, e8, e9⟩ := k.move (t := s) ⟨fun x hx => a1 x (fun hx' => c1 x hx' hx), fun x hx => a2 x (fun hx' => c4 x hx' hx), fun x hx => a2 x (fun hx' => c5 x hx' hx)⟩ n1.symm
  obtain ⟨t2, f1, f2, f3, f4, f5, f6, f7, f8, f9⟩ := h.move (t := t1) ⟨fun x hx => (e5 x (fun hx' => c3 x hx hx')).symm, fun x hx => (e7 x (fun hx' => c6 x hx hx')).symm, fun x hx => (e7 x (fun hx' => c5 x hx hx')).symm⟩ e2
  refine ⟨t1, t2, e1, f1, ⟨by rw [f2, e2, e3, n1], fun x => ?_, fun x => ?_⟩⟩
  · by_cases hx : x ∈ f.wt
    · rw [f4 x hx, e8 x (c2 x hx)]
    · rw [f5 x hx]
      by_cases hy : x ∈ g.wt
      · rw [e4 x hy]
      · rw [e5 x hy, e8 x hy, f8 x hx]
  · by_cases hx : x ∈ f.wo
    · rw [f6 x hx, e9 x (c5 x hx)]
    · rw [f7 x hx]
      by_cases hy : x ∈ g.wo
      · rw [e6 x hy]
      · rw [e7 x hy, e9 x hy, f9 x hx]

/-- a run of operations, each with its footprint -/
def RunL (C : Cx) (ops : List Oper) : List (Nat × Ft) → St → St → Prop
  | [], s, s' => Same s s'
  | q :: r, s, s' => ∃ o s1, ops[q.1]? = some o ∧ StepF C ops o s s1 q.2 ∧ RunL C ops r s1 s'

theorem RunL.same : ∀ {l : List (Nat × Ft)} {s s' t : St}, RunL C ops l s s' → Same s t → RunL C ops l t s' := by
  intro l
  induction l with
  | nil => intro s s' t h hs; exact hs.symm.trans h
  | cons q r ih =>
    intro s s' t h hs
    obtain ⟨o, s1, h1, h2, h3⟩ := h
    obtain ⟨t2, e1, e2, e3, e4, e5, e6, e7, e8, e9⟩ := h2.move (t := t) ⟨fun x _ => (hs.t x).symm, fun x _ => (hs.o x).symm, fun x _ => (hs.o x).symm⟩ hs.n
    refine ⟨o, t2, h1, e1, ih h3 ⟨by rw [e2, hs.n, e3], fun x => ?_, fun x => ?_⟩⟩
    · by_cases hx : x ∈ q.2.wt
      · exact e4 x hx
      · rw [e5 x hx, e8 x hx, hs.t]
    · by_cases hx : x ∈ q.2.wo
      · exact e6 x hx
      · rw [e7 x hx, e9 x hx, hs.o]

theorem RunL.front : ∀ {l1 l2 : List (Nat × Ft)} {q : Nat × Ft} {s s' : St}, RunL C ops (l1 ++ q :: l2) s s' → (∀ x, x ∈ l1 → Ft.clash x.2 q.2 = false) → RunL C ops (q :: (l1 ++ l2)) s s' := by
  intro l1
  induction l1 with
  | nil => intro l2 q s s' h _; exact h
  | cons x l1 ih =>
    intro l2 q s s' h hc
    obtain ⟨o, s1, h1, h2, h3⟩ := h
    obtain ⟨p, s2, g1, g2, g3⟩ := ih h3 fun y hy => hc y (List.mem_cons_of_mem _ hy)
    obtain ⟨t1, t2, k1, k2, k3⟩ := h2.swap g2 (hc x (List.mem_cons_self ..))
    exact ⟨p, t1, g1, k1, o, t2, h1, k2, g3.same k3⟩
end
end Go.Ev

/- A region of a drawn order does in every order what it does in the order of its text. -/
set_option linter.unusedVariables false
set_option linter.unusedSimpArgs false
namespace Go.Ev
open Go

theorem edgeBits_test {es : List Edge} {ms : List Nat} {i : Nat} : (edgeBits es ms).testBit i = true ↔ ∃ e ∈ es, Region.binds .any e = true ∧ (e.on = i ∨ (ms.getD e.on 0).testBit i = true) := by
  induction es with
  | nil => simp [edgeBits]
  | cons e es ih =>
    simp only [edgeBits]
    by_cases hb : Region.binds .any e = true
    · rw [if_pos hb]
      show ((2 ^ e.on ||| ms.getD e.on 0) ||| edgeBits es ms).testBit i = true ↔ _
      rw [Nat.testBit_or, Nat.testBit_or, Nat.testBit_two_pow, Bool.or_eq_true, Bool.or_eq_true, ih]
      simp only [decide_eq_true_eq, List.mem_cons]
      constructor
      · rintro (h | ⟨e', h1, h2⟩)
        · exact ⟨e, .inl rfl, hb, h⟩
        · exact ⟨e', .inr h1, h2⟩
      · rintro ⟨e', rfl | h1, h2, h3⟩
        · exact .inl h3
        · exact .inr ⟨e', h1, h2, h3⟩
    · rw [if_neg hb, ih]
      constructor
      · rintro ⟨e', h1, h2⟩; exact ⟨e', List.mem_cons_of_mem _ h1, h2⟩
      · rintro ⟨e', h1, h2, h3⟩
        rcases List.mem_cons.1 h1 with rfl | h1
        · exact absurd h2 hb
        · exact ⟨e', h1, h2, h3⟩

theorem masks_prefix : ∀ {l : List Oper} {ms : List Nat} {i : Nat}, i < ms.length → (masks l ms).getD i 0 = ms.getD i 0 := by
  intro l
  induction l with
  | nil => intro ms i _; rfl
  | cons o l ih =>
    intro ms i hi
    simp only [masks]
    rw [ih (by simp; omega)]
    simp [List.getD, List.getElem?_append_left hi]

theorem edgesBack_spec : ∀ {l : List Oper} {i : Nat}, edgesBack l i = true → ∀ j o, l[j]? = some o → ∀ e ∈ o.after.toList, Region.binds .any e = true → e.on < i + j := by
  intro l
  induction l with
  | nil => intro i _ j o ho; simp at ho
  | cons x l ih =>
    intro i h j o ho e he hb
    simp only [edgesBack, Bool.and_eq_true] at h
    cases j with
    | zero =>
      simp at ho; subst ho
      have := List.all_eq_true.1 h.1 e he
      simp [hb] at this
      omega
    | succ j =>
      have := ih h.2 j o (by simpa using ho) e he hb
      omega

theorem masks_spec : ∀ {l : List Oper} {ms : List Nat}, edgesBack l ms.length = true → ∀ j o, l[j]? = some o → (masks l ms).getD (ms.length + j) 0 = edgeBits o.after.toList (masks l ms) := by
  intro l
  induction l with
  | nil => intro ms _ j o ho; simp at ho
  | cons x l ih =>
    intro ms h j o ho
    have h0 := h
    simp only [edgesBack, Bool.and_eq_true] at h
    simp only [masks]
    cases j with
    | zero =>
      simp at ho; subst ho
      rw [masks_prefix (by simp)]
      have e1 : (ms ++ [edgeBits x.after.toList ms]).getD (ms.length + 0) 0 = edgeBits x.after.toList ms := by simp [List.getD]
      rw [e1]
      have key : ∀ es : List Edge, (∀ e ∈ es, Region.binds .any e = true → e.on < ms.length) → edgeBits es ms = edgeBits es (masks l (ms ++ [edgeBits x.after.toList ms])) := by
        intro es
        induction es with
        | nil => intro _; rfl
        | cons e es ih2 =>
          intro hes
          simp only [edgeBits]
          rw [ih2 fun e' he' => hes e' (List.mem_cons_of_mem _ he')]
          by_cases hb : Region.binds .any e = true
          · have := hes e (List.mem_cons_self ..) hb
            rw [if_pos hb, if_pos hb, masks_prefix (by simp; omega)]
            congr 2
            simp [List.getD, List.getElem?_append_left this]
          · rw [if_neg hb, if_neg hb]
      exact key _ fun e he hb => by have := edgesBack_spec h0 0 x (by simp) e he hb; omega
    | succ j =>
      have := ih (ms := ms ++ [edgeBits x.after.toList ms]) (by simpa using h.2) j o (by simpa using ho)
      rw [← this]
      congr 1
      simp; omega

theorem clashAll_spec {ms : List Nat} {i : Nat} {f : Ft} : ∀ {acc : List (Nat × Ft)}, clashAll ms i f acc = false → ∀ q ∈ acc, (ms.getD i 0).testBit q.1 = true ∨ Ft.clash q.2 f = false := by
  intro acc
  induction acc with
  | nil => intro _ q hq; simp at hq
  | cons x acc ih =>
    intro h q hq
    simp only [clashAll, Bool.or_eq_false_iff, Bool.and_eq_false_iff, Bool.not_eq_false'] at h
    rcases List.mem_cons.1 hq with rfl | hq
    · exact h.1
    · exact ih h.2 q hq

section
variable {P : Program} {C : Cx} {W0 : World} {F0 : Base} {ρ : Nat → Option Loc} {s s' : St} {a : Act} {w : World}

/-- of two operations in the text's order: the first comes before the second, or they do not meet -/
def Free (ms : List Nat) (x y : Nat × Ft) : Prop := x.1 < y.1 ∧ ((ms.getD y.1 0).testBit x.1 = true ∨ Ft.clash x.2 y.2 = false)

theorem opsF_run {ops : List Oper} {ms : List Nat} {R : Type} {r : R} {k : St → Option R} : ∀ {l : List Oper} {i : Nat} {s s0 : St} {acc : List (Nat × Ft)}, Same s0 s → (∀ j o, l[j]? = some o → ops[i + j]? = some o) →
    opsF C ops ms l i s acc k = some r →
    ∃ L s1 s1', L.map (·.1) = List.range' i l.length ∧ RunL C ops L s0 s1 ∧ Same s1 s1' ∧ k s1' = some r ∧ L.Pairwise (Free ms) ∧ ∀ q ∈ acc, ∀ x ∈ L, (ms.getD x.1 0).testBit q.1 = true ∨ Ft.clash q.2 x.2 = false := by
  intro l
  induction l with
  | nil => intro i s s0 acc hs _ h; exact ⟨[], s0, s, rfl, Same.refl _, hs, h, List.Pairwise.nil, by simp⟩
  | cons o l ih =>
    intro i s s0 acc hs hl h
    simp only [opsF] at h
    obtain ⟨v, s1, s1', f, hf, hss, h⟩ := runF_foot hs h
    cases hc : clashAll ms i f acc with
    | true => simp [hc] at h
    | false =>
      simp only [hc, cond_false] at h
      cases hp : putDst o v s1' with
      | none => rw [hp] at h; simp at h
      | some s2 =>
        rw [hp] at h
        dsimp only at h
        have hp' : ∃ s2', putDst o v s1 = some s2' ∧ Same s2' s2 := by
          unfold putDst at hp ⊢
          cases hd : o.dst with
          | none => rw [hd] at hp; simp at hp; subst hp; exact ⟨s1, rfl, hss⟩
          | some d =>
            rw [hd] at hp
            dsimp only at hp ⊢
            rw [hss.n] at hp
            cases hlt : Nat.blt d s1.n with
            | false => simp [hlt] at hp
            | true => simp [hlt] at hp; subst hp; exact ⟨_, by simp [hlt], hss.setT d v⟩
        obtain ⟨s2', hp', hs2⟩ := hp'
        obtain ⟨L, t1, t1', g1, g2, g3, g4, g5, g6⟩ := ih hs2 (fun j o' ho' => by have := hl (j + 1) o' (by simpa using ho'); rw [← this]; congr 1; omega) h
        refine ⟨(i, f) :: L, t1, t1', by rw [List.map_cons, g1, List.length_cons, List.range'_succ], ⟨o, s2', by simpa using hl 0 o rfl, ⟨v, s1, hf, hp'⟩, g2⟩, g3, g4, List.pairwise_cons.2 ⟨fun x hx => ⟨?_, g6 (i, f) (List.mem_cons_self ..) x hx⟩, g5⟩, fun q hq x hx => ?_⟩
        · have : x.1 ∈ List.range' (i + 1) l.length := by rw [← g1]; exact List.mem_map.2 ⟨x, hx, rfl⟩
          rw [List.mem_range'_1] at this
          omega
        · rcases List.mem_cons.1 hx with rfl | hx
          · exact clashAll_spec hc q hq
          · exact g6 q (List.mem_cons_of_mem _ hq) x hx

theorem drawn_wp (hC : CxOK P C) {ops : Array Oper} {ms : List Nat} (hback : ∀ j o, ops[j]? = some o → ∀ e ∈ o.after.toList, Region.binds .any e = true → e.on < j)
    (hms : ∀ j o, ops[j]? = some o → ms.getD j 0 = edgeBits o.after.toList ms) {sf : St} {Q : Exit → Act → World → Prop} (hQ : ∀ s' a' w' ρ', Same s' sf → Rep W0 F0 ρ' s' a' w' → Q .normal a' w') :
    ∀ (n : Nat) {L : List (Nat × Ft)} {listed : Array Bool} {s : St} {a : Act} {w : World} {ρ : Nat → Option Loc}, L.length = n → listed.size = ops.size → (∀ j, j ∈ L.map (·.1) ↔ listed.getD j true = false) → L.Pairwise (Free ms) →
      (∀ j, listed.getD j false = true → ∀ i, (ms.getD j 0).testBit i = true → listed.getD i false = true) → RunL C ops.toList L s sf → Rep W0 F0 ρ s a w → wpAny P .any ops Q n listed a w := by
  intro n
  induction n with
  | zero =>
    intro L listed s a w ρ hn hsz hmem hpw hcl hrun h
    have : L = [] := List.eq_nil_of_length_eq_zero hn
    subst this
    refine ⟨?_, hQ s a w ρ hrun.symm.symm h⟩
    rw [List.eq_nil_iff_forall_not_mem]
    intro j hj
    have := (mem_ready.1 hj).1
    rw [← hmem] at this
    simp at this
  | succ n ih =>
    intro L listed s a w ρ hn hsz hmem hpw hcl hrun h
    refine ⟨fun h0 => ?_, fun j hj => ?_⟩
    · exfalso
      cases L with
      | nil => simp at hn
      | cons q L =>
        obtain ⟨o, s1, ho, _, _⟩ := hrun
        have hq : listed.getD q.1 true = false := (hmem q.1).1 (by simp)
        have : q.1 ∈ Region.ready .any ops listed := by
          refine mem_ready.2 ⟨hq, o, by simpa using ho, fun e he hb => ?_⟩
          have hlt := hback q.1 o (by simpa using ho) e (by simpa using he) hb
          cases hl : listed.getD e.on false with
          | true => rfl
          | false =>
            exfalso
            have hos : q.1 < ops.size := (Array.getElem?_eq_some_iff.1 (by simpa using ho : ops[q.1]? = some o)).1
            have hl2 : listed.getD e.on true = false := by
              have : e.on < listed.size := by omega
              simp [Array.getD, this] at hl ⊢
              exact hl
            have := (hmem e.on).2 hl2
            simp only [List.map_cons, List.mem_cons, List.mem_map] at this
            rcases this with e1 | ⟨x, hx, e1⟩
            · omega
            · have := ((List.pairwise_cons.1 hpw).1 x hx).1
              omega
        rw [h0] at this
        cases this
    · obtain ⟨hjl, o, ho, hall⟩ := mem_ready.1 hj
      have hm := (hmem j).2 hjl
      obtain ⟨q, hq, rfl⟩ := List.mem_map.1 hm
      obtain ⟨L1, L2, rfl⟩ := List.append_of_mem hq
      have hlist : ∀ i, (ms.getD q.1 0).testBit i = true → listed.getD i false = true := by
        intro i hi
        rw [hms q.1 o ho] at hi
        obtain ⟨e, he, hb, h1⟩ := edgeBits_test.1 hi
        have he' : listed.getD e.on false = true := hall e (by simpa using he) hb
        rcases h1 with rfl | h1
        · exact he'
        · exact hcl _ he' i h1
      have hfree : ∀ x, x ∈ L1 → Ft.clash x.2 q.2 = false := by
        intro x hx
        have h1 := (List.pairwise_append.1 hpw).2.2 x hx q (List.mem_cons_self ..)
        refine h1.2.resolve_left fun hb => ?_
        have h2 := hlist x.1 hb
        have h3 := (hmem x.1).1 (List.mem_map.2 ⟨x, List.mem_append_left _ hx, rfl⟩)
        by_cases hlt : x.1 < listed.size
        · simp [Array.getD, hlt] at h2 h3; rw [h2] at h3; cases h3
        · simp [Array.getD, hlt] at h2
      have hfront := hrun.front hfree
      obtain ⟨o', s1, ho', hstep, hrest⟩ := hfront
      have : o' = o := by
        have e1 : ops[q.1]? = some o' := by simpa using ho'
        rw [ho] at e1; exact (Option.some.inj e1).symm
      subst this
      unfold wpOp
      rw [ho]
      dsimp only
      have hnot : ∀ x, x ∈ L1 ++ L2 → x.1 ≠ q.1 := by
        intro x hx
        rcases List.mem_append.1 hx with hx | hx
        · have := ((List.pairwise_append.1 hpw).2.2 x hx q (List.mem_cons_self ..)).1
          omega
        · have := ((List.pairwise_cons.1 (List.pairwise_append.1 hpw).2.1).1 x hx).1
          omega
      have hqs : q.1 < listed.size := by
        by_cases hlt : q.1 < listed.size
        · exact hlt
        · simp [Array.getD, hlt] at hjl
      have := step_wp hC h (ops := ops) (Q := Q) (K := wpAny P .any ops Q n (listed.setIfInBounds q.1 true)) hstep.to fun a' w' ρ' hr => ?_
      · by_cases hw : Region.wanted o' (yielded ops a.tmps) = true
        · rw [if_pos hw] at this; simp only [hw, if_true]; exact .inl this
        · rw [if_neg hw] at this; simp only [hw]; exact this
      · refine ih (L := L1 ++ L2) (by simp at hn ⊢; omega) (by simpa using hsz) (fun i => ?_) ?_ (fun i hi x hx => ?_) hrest hr
        · by_cases e : q.1 = i
          · subst e
            constructor
            · intro h1
              obtain ⟨x, hx, e1⟩ := List.mem_map.1 h1
              exact absurd e1 (hnot x hx)
            · intro h1
              exfalso
              simp [Array.getD, hqs] at h1
          · rw [getD_set_ne true e, ← hmem i]
            simp only [List.map_append, List.map_cons, List.mem_append, List.mem_cons]
            constructor
            · rintro (h1 | h1)
              · exact .inl h1
              · exact .inr (.inr h1)
            · rintro (h1 | h1 | h1)
              · exact .inl h1
              · exact absurd h1.symm e
              · exact .inr h1
        · exact hpw.sublist ((List.Sublist.refl L1).append (List.sublist_cons_self _ _))
        · by_cases e : q.1 = i
          · subst e
            exact getD_set_true (hlist x hx)
          · rw [getD_set_ne false e] at hi
            exact getD_set_true (hcl i hi x hx)

theorem region_wp (hC : CxOK P C) (hm : P.follows .mixedOrders = true) {ops : Array Oper} {draw : Bool} {id : Nat} {R : Type} {r : R} {k : St → Option R} {Q : Exit → Act → World → Prop}
    (hQ : ∀ s' a' w' ρ', Rep W0 F0 ρ' s' a' w' → k s' = some r → Q .normal a' w') (h : Rep W0 F0 ρ s a w)
    (hk : (if draw = true then (bif edgesBack ops.toList 0 then opsF C ops.toList (masks ops.toList []) ops.toList 0 s [] k else none) else opsK C ops.toList ops.toList s k) = some r) :
    (Code.region id ops draw).wp P Q a w := by
  cases draw with
  | false =>
    simp only [Bool.false_eq_true, if_false] at hk
    exact wp_region_list (opsK_wp hC hQ h hk)
  | true =>
    simp only [if_true] at hk
    cases he : edgesBack ops.toList 0 with
    | false => simp [he] at hk
    | true =>
      simp only [he, cond_true] at hk
      obtain ⟨L, s1, s1', g1, g2, g3, g4, g5, _⟩ := opsF_run (Same.refl s) (fun j o ho => by simpa using ho) hk
      refine wp_region_any hm ?_
      have hlen : L.length = ops.size := by
        have := congrArg List.length g1
        simpa using this
      have := drawn_wp hC (ops := ops) (ms := masks ops.toList []) (sf := s1) (Q := Q) (W0 := W0) (F0 := F0) (fun j o ho e he' hb => by have := edgesBack_spec he j o (by simpa using ho) e he' hb; omega)
        (fun j o ho => by have := masks_spec (ms := []) he j o (by simpa using ho); simpa using this)
        (fun s' a' w' ρ' hs hr => hQ s1' a' w' ρ' (hr.same (hs.trans g3)) g4)
        ops.size (L := L) (listed := Array.replicate ops.size false) (s := s) (a := a) (w := { w with drawn := w.drawn + 1 }) (ρ := ρ) hlen (by simp)
        (fun j => by
          rw [g1, List.mem_range'_1]
          by_cases hj : j < ops.size
          · simp [Array.getD, hj]
          · simp [Array.getD, hj])
        g5
        (fun j hj => by
          exfalso
          by_cases hlt : j < ops.size
          · simp [Array.getD, hlt] at hj
          · simp [Array.getD, hlt] at hj)
        g2 h.drew
      exact this
end
end Go.Ev

/- Code: loops begin each round from a state of a kept form. -/
set_option linter.unusedVariables false
set_option linter.unusedSimpArgs false
namespace Go.Ev
open Go

theorem look_mem : ∀ {l : List (Nat × AV)} {i : Nat}, look l i = .top ∨ (i, look l i) ∈ l := by
  intro l i
  induction l with
  | nil => exact .inl rfl
  | cons q l ih =>
    obtain ⟨j, v⟩ := q
    rw [look_cons]
    by_cases e : j = i
    · subst e; rw [if_pos rfl]; exact .inr (List.mem_cons_self ..)
    · rw [if_neg e]
      rcases ih with h | h
      · exact .inl h
      · exact .inr (List.mem_cons_of_mem _ h)
theorem look?_some : ∀ {l : List (Nat × AV)} {i : Nat} {c : AV}, look? l i = some c → (i, c) ∈ l := by
  intro l i c
  induction l with
  | nil => intro h; simp [look?] at h
  | cons q l ih =>
    obtain ⟨j, v⟩ := q
    rw [look?_cons]
    by_cases e : j = i
    · subst e; rw [if_pos rfl]; intro h; cases h; exact List.mem_cons_self ..
    · rw [if_neg e]; intro h; exact List.mem_cons_of_mem _ (ih h)
theorem look?_mem : ∀ {l : List (Nat × AV)}, (namesOf l).Nodup → ∀ {i : Nat} {c : AV}, (i, c) ∈ l → look? l i = some c := by
  intro l
  induction l with
  | nil => intro _ i c h; simp at h
  | cons q l ih =>
    obtain ⟨j, v⟩ := q
    intro hn i c h
    simp only [namesOf, List.map_cons, List.nodup_cons] at hn
    rw [look?_cons]
    rcases List.mem_cons.1 h with e | h
    · cases e; rw [if_pos rfl]
    · have : j ≠ i := fun e => hn.1 (by rw [e]; exact List.mem_map.2 ⟨_, h, rfl⟩)
      rw [if_neg this]; exact ih hn.2 h
theorem subN_spec : ∀ {l m : List Nat}, subN l m = true → ∀ i, i ∈ l → i ∈ m := by
  intro l m
  induction l with
  | nil => intro _ i hi; simp at hi
  | cons j l ih =>
    intro h i hi
    simp only [subN, Bool.and_eq_true] at h
    rcases List.mem_cons.1 hi with rfl | hi
    · exact memN_iff.1 h.1
    · exact ih h.2 i hi
theorem namesAll_mem : ∀ {l : List (Nat × AV)} {q : Nat × AV}, q ∈ l → ∀ i, i ∈ q.2.names → i ∈ namesAll l := by
  intro l
  induction l with
  | nil => intro q hq; simp at hq
  | cons x l ih =>
    intro q hq i hi
    simp only [namesAll, List.mem_append]
    rcases List.mem_cons.1 hq with rfl | hq
    · exact .inl hi
    · exact .inr (ih hq i hi)

/-- of fewer objects: what is named stays -/
structure Part (E E' : Env) (S : Nat → Prop) : Prop where
  w : E'.w = E.w
  s : ∀ o, S o → ∀ d, E.s o = some d → ∃ d', E'.s o = some d' ∧ d'.sh = d.sh
  ρ : ∀ o, S o → E'.ρ o = E.ρ o
  F : ∀ b, E'.F b → E.F b

theorem Part.pu {E E' : Env} {S : Nat → Prop} (h : Part E E' S) {t : Ty} {x : t.den} {cs : List Value} (k : Pu E.w E.F t x cs) : Pu E'.w E'.F t x cs :=
  k.mono fun b o hb ho => ⟨by rw [h.w]; exact ho, fun hn => hb (h.F b hn)⟩

theorem Part.ce {E E' : Env} {S : Nat → Prop} (h : Part E E' S) : ∀ {c : AV} {cs : List Value}, (∀ o, o ∈ c.names → S o) → Ce E c cs → Ce E' c cs := by
  intro c
  induction c with
  | ref o p =>
    intro cs hn k
    have hS := hn o (by simp [AV.names])
    obtain ⟨a, hc, d, hd, hk⟩ := k
    obtain ⟨d', hd', e'⟩ := h.s o hS d hd
    exact ⟨a, hc, d', hd', by rw [e']; exact hk.imp id fun ⟨l, k, e, h1, h2⟩ => ⟨l, k, e, (h.ρ o hS).trans h1, h2⟩⟩
  | pref t x =>
    intro cs hn k
    obtain ⟨a, hc, b, off, cells, T, fr, ha, hF, hb, hs, hp⟩ := k
    exact ⟨a, hc, b, off, cells, T, fr, ha, fun hn => hF (h.F b hn), by rw [h.w]; exact hb, hs, h.pu hp⟩
  | view o p off len =>
    intro cs hn k
    have hS := hn o (by simp [AV.names])
    obtain ⟨v, hc, n, a, cap, hv, hn, hcap, d, hd, hk⟩ := k
    obtain ⟨d', hd', e'⟩ := h.s o hS d hd
    exact ⟨v, hc, n, a, cap, hv, hn, hcap, d', hd', by rw [e']; exact hk.imp id fun ⟨k, t, m, h1, h2, h3, h4⟩ => ⟨k, t, m, h1, h2, h3, h4.imp id fun ⟨l, cells, T, fr, g1, g2, g3, g4⟩ => ⟨l, cells, T, fr, (h.ρ o hS).trans g1, g2, by rw [h.w]; exact g3, g4⟩⟩⟩
  | full o =>
    intro cs hn k
    have hS := hn o (by simp [AV.names])
    obtain ⟨v, hc, n, a, cap, hv, hcap, d, hd, hk⟩ := k
    obtain ⟨d', hd', e'⟩ := h.s o hS d hd
    exact ⟨v, hc, n, a, cap, hv, hcap, d', hd', by rw [e']; exact hk.imp id fun ⟨t, h1, h4⟩ => ⟨t, h1, h4.imp id fun ⟨l, cells, T, fr, g1, g2, g3, g4⟩ => ⟨l, cells, T, fr, (h.ρ o hS).trans g1, g2, by rw [h.w]; exact g3, g4⟩⟩⟩
  | pv o n =>
    intro cs hn k
    have hS := hn o (by simp [AV.names])
    obtain ⟨a, hc, d, hd, hk⟩ := k
    obtain ⟨d', hd', e'⟩ := h.s o hS d hd
    exact ⟨a, hc, d', hd', by rw [e']; exact hk.imp id fun ⟨l, k, e, h1, h2⟩ => ⟨l, k, e, (h.ρ o hS).trans h1, h2⟩⟩
  | lst t xs => intro cs _ k; exact Part.pu (t := .sl t) h k
  | arr t n xs => intro cs _ k; exact Part.pu (t := .arr n t) h k
  | bk t xs => intro cs _ k; exact Part.pu (t := .arr xs.length t) h k
  | cons a b iha ihb =>
    intro cs hn k
    simp only [AV.names, List.mem_append] at hn
    exact ⟨iha (fun o ho => hn o (.inl ho)) k.1, ihb (fun o ho => hn o (.inr ho)) k.2⟩
  | iface T v ih => intro cs hn k; obtain ⟨u, hc, hs, k⟩ := k; exact ⟨u, hc, hs, ih hn k⟩
  | _ => intro cs _ k; exact k

theorem Part.val1 {E E' : Env} {S : Nat → Prop} (h : Part E E' S) {v : AV} {u : Value} (hn : ∀ o, o ∈ v.names → S o) (k : Val1 E v u) : Val1 E' v u := by
  rcases k with k | ⟨k1, cs, k2, k3⟩ | ⟨k1, k2, k3⟩
  · exact .inl k
  · exact .inr (.inl ⟨k1, cs, k2, h.ce hn k3⟩)
  · exact .inr (.inr ⟨k1, k2, h.ce hn k3⟩)
theorem Part.valT {E E' : Env} {S : Nat → Prop} (h : Part E E' S) : ∀ {c : AV} {us : List Value}, (∀ o, o ∈ c.names → S o) → ValT E c us → ValT E' c us := by
  intro c
  induction c with
  | cons a b iha ihb =>
    intro us hn k
    simp only [AV.names, List.mem_append] at hn
    obtain ⟨u, r, hu, k1, k2⟩ := k
    exact ⟨u, r, hu, h.val1 (fun o ho => hn o (.inl ho)) k1, ihb (fun o ho => hn o (.inr ho)) k2⟩
  | nl => intro us _ k; exact k
  | _ => intro us _ k; exact k.elim
theorem Part.val {E E' : Env} {S : Nat → Prop} (h : Part E E' S) {v : AV} {u : Value} (hn : ∀ o, o ∈ v.names → S o) (k : Val E v u) : Val E' v u := by
  rcases k with k | ⟨c, us, k1, k2, k3⟩
  · exact .inl (h.val1 hn k)
  · subst k1; exact .inr ⟨c, us, rfl, k2, h.valT hn k3⟩

section
variable {P : Program} {C : Cx} {W0 : World} {F0 : Base} {ρ : Nat → Option Loc} {s s' : St} {a : Act} {w : World}

theorem blk_nodup (h : Rep W0 F0 ρ s a w) : ∀ {l : List Nat}, l.Nodup → (∀ q ∈ l, ∃ c, s.o q = some c ∧ c.sh ≠ .bad) → (blk ρ l).Nodup := by
  intro l
  induction l with
  | nil => intro _ _; simp [blk]
  | cons q l ih =>
    intro hn hl
    simp only [List.nodup_cons] at hn
    have ih' := ih hn.2 fun q hq => hl q (List.mem_cons_of_mem _ hq)
    cases hq : ρ q with
    | none => simpa [blk, hq] using ih'
    | some k =>
      rw [blk_cons hq]
      refine List.nodup_cons.2 ⟨fun hm => ?_, ih'⟩
      obtain ⟨q', hq', e⟩ := List.mem_filterMap.1 hm
      obtain ⟨c, hc, hcs⟩ := hl q (List.mem_cons_self ..)
      obtain ⟨c', hc', hcs'⟩ := hl q' (List.mem_cons_of_mem _ hq')
      cases hk' : ρ q' with
      | none => rw [hk'] at e; simp at e
      | some k' =>
        rw [hk'] at e
        have := h.inj q q' c c' k k' hc hc' hcs hcs' hq hk' (by simpa using e.symm)
        subst this
        exact hn.1 hq'
theorem blk_mem {own : List Nat} (hl : ∀ q ∈ own, ∃ c, s.o q = some c ∧ c.sh ≠ .bad) {b : Nat} (hb : b ∈ blk ρ own) : ∃ q c k, q ∈ own ∧ s.o q = some c ∧ c.sh ≠ .bad ∧ ρ q = some k ∧ k.b = b := by
  obtain ⟨q, hq, e⟩ := List.mem_filterMap.1 hb
  obtain ⟨c, hc, hcs⟩ := hl q hq
  cases hk : ρ q with
  | none => rw [hk] at e; simp at e
  | some k => rw [hk] at e; exact ⟨q, c, k, hq, hc, hcs, hk, by simpa using e⟩

/-- one row that a round owns -/
theorem ownSP_spec (h : Rep W0 F0 ρ s a w) {v v' : AV} {cs0 : List Value} (hce : Ce ⟨w, s.o, ρ⟩ v cs0) {sp : SP} {nm : Nat} {l : List (Nat × AV)} {us : List Nat} (ho : ownSP s v sp nm = some (v', l, us)) :
    (∀ q ∈ us, ∃ c, s.o q = some c ∧ c.sh ≠ .bad) ∧ ∃ (τ : Nat → Option Loc) (pl : List (Nat × Nat)), (pl.map (·.2)).Sublist (blk ρ us) ∧ (∀ o k, o ∈ namesOf l → τ o = some k → (o, k.b) ∈ pl) ∧
      ∀ E' : Env, E'.w = w → OnE E' l τ → (∀ b, E'.F b → Env.F ⟨w, s.o, ρ⟩ b) → Ce E' v' cs0 ∧ ObsOK E' l := by
  unfold ownSP at ho
  obtain ⟨y, s1, s1', ho1, hsame, ho⟩ := runK_out (Same.refl _) ho
  obtain ⟨x, own, ro, bs, g1, g2, g3, g4, g5, g6⟩ := exS_out h hce ho1
  cases ro with
  | cons _ _ => exact g1.elim
  | nil =>
    obtain ⟨rfl, rfl⟩ := g1
    have hT := g6 (Env.F ⟨w, s1.o, ρ⟩) (.inr fun b hb => by
      obtain ⟨o, c, l, h1, h2, h3, h4⟩ := hb
      exact ⟨o, c, l, by simp, h1, h2, h3, h4⟩)
    obtain ⟨z, s2, s2', ho2, _, e⟩ := runK_out (Same.refl _) ho
    simp only [Option.some.injEq, Prod.mk.injEq] at e
    obtain ⟨rfl, rfl, rfl⟩ := e
    obtain ⟨c, l, n, τ, pl, f1, f2, _, _, _, _, _, f3⟩ := inS_out hT ho2
    obtain ⟨rfl, rfl⟩ := f1
    exact ⟨g2, τ, pl, f2.sub.trans g3, f2.blk, fun E' hw hE hF => f3 E' hw hE (.inr hF)⟩
theorem ownOne_spec (h : Rep W0 F0 ρ s a w) {t : Nat} {sp : SP} {nm : Nat} {v' : AV} {l : List (Nat × AV)} {us : List Nat} (ho : ownOne s t sp nm = some (v', l, us)) :
    (∀ q ∈ us, ∃ c, s.o q = some c ∧ c.sh ≠ .bad) ∧ ∃ (τ : Nat → Option Loc) (pl : List (Nat × Nat)), (pl.map (·.2)).Sublist (blk ρ us) ∧ (∀ o k, o ∈ namesOf l → τ o = some k → (o, k.b) ∈ pl) ∧
      ∀ E' : Env, E'.w = w → OnE E' l τ → (∀ b, E'.F b → Env.F ⟨w, s.o, ρ⟩ b) → Val E' v' (a.tmps.getD t undef) ∧ ObsOK E' l := by
  unfold ownOne at ho
  split at ho
  case h_2 => cases ho
  rename_i hs
  split at ho
  case h_2 => cases ho
  rename_i v l' os h1
  split at ho
  case h_2 => cases ho
  rename_i hs'
  simp only [Option.some.injEq, Prod.mk.injEq] at ho
  obtain ⟨rfl, rfl, rfl⟩ := ho
  obtain ⟨g1, τ, pl, g2, g3, g4⟩ := ownSP_spec h ((h.tm t).ce hs) h1
  exact ⟨g1, τ, pl, g2, g3, fun E' e1 e2 e3 => ⟨Val.leaf hs' (g4 E' e1 e2 e3).1, (g4 E' e1 e2 e3).2⟩⟩
theorem ownAll_spec (h : Rep W0 F0 ρ s a w) : ∀ {l : List (Nat × SP × Nat)} {ts obs : List (Nat × AV)} {used : List Nat}, ownAll s l = some (ts, obs, used) → (namesOf obs).Nodup →
    (∀ q ∈ used, ∃ c, s.o q = some c ∧ c.sh ≠ .bad) ∧ ∃ (τ : Nat → Option Loc) (pl : List (Nat × Nat)), (pl.map (·.2)).Sublist (blk ρ used) ∧ (∀ o k, o ∈ namesOf obs → τ o = some k → (o, k.b) ∈ pl) ∧
      ∀ E' : Env, E'.w = w → OnE E' obs τ → (∀ b, E'.F b → Env.F ⟨w, s.o, ρ⟩ b) → (∀ q, q ∈ ts → Val E' q.2 (a.tmps.getD q.1 undef)) ∧ ObsOK E' obs := by
  intro l
  induction l with
  | nil =>
    intro ts obs used ho _
    simp only [ownAll, Option.some.injEq, Prod.mk.injEq] at ho
    obtain ⟨rfl, rfl, rfl⟩ := ho
    exact ⟨by simp, fun _ => none, [], List.Sublist.refl _, by simp [namesOf], fun E' _ _ _ => ⟨by simp, by intro p hp; simp at hp⟩⟩
  | cons q l ih =>
    obtain ⟨t, sp, nm⟩ := q
    intro ts obs used ho hn
    simp only [ownAll] at ho
    split at ho
    case h_2 => cases ho
    rename_i v' l1 os h1
    split at ho
    case h_2 => cases ho
    rename_i ts' obs' used' h2
    simp only [Option.some.injEq, Prod.mk.injEq] at ho
    obtain ⟨rfl, rfl, rfl⟩ := ho
    have hn' : (namesOf l1 ++ namesOf obs').Nodup := by simpa [namesOf] using hn
    rw [List.nodup_append] at hn'
    obtain ⟨hn1, hn2, hdis⟩ := hn'
    obtain ⟨g1, τ1, pl, g2, g3, g4⟩ := ownOne_spec h h1
    obtain ⟨f1, τ, pl', f2, f3, f4⟩ := ih h2 hn2
    refine ⟨fun q hq => (List.mem_append.1 hq).elim (g1 q) (f1 q), fun o => if memN o (namesOf l1) then τ1 o else τ o, pl ++ pl', by rw [List.map_append, blk_append]; exact g2.append f2, fun o k ho hk => ?_, fun E' hw hE hF => ?_⟩
    · dsimp only at hk
      by_cases e : o ∈ namesOf l1
      · rw [if_pos (memN_iff.2 e)] at hk
        exact List.mem_append_left _ (g3 o k e hk)
      · rw [if_neg (fun hm => e (memN_iff.1 hm))] at hk
        have ho : o ∈ namesOf l1 ++ namesOf obs' := by simpa [namesOf] using ho
        exact List.mem_append_right _ (f3 o k ((List.mem_append.1 ho).resolve_left e) hk)
    · have hE1 : OnE E' l1 τ1 := fun p hp => by
        have := hE p (List.mem_append_left _ hp)
        have hm : p.1 ∈ namesOf l1 := List.mem_map.2 ⟨p, hp, rfl⟩
        dsimp only at this
        rw [if_pos (memN_iff.2 hm)] at this; exact this
      have hE2 : OnE E' obs' τ := fun p hp => by
        have := hE p (List.mem_append_right _ hp)
        have hne : p.1 ∉ namesOf l1 := fun e => hdis p.1 e p.1 (List.mem_map.2 ⟨p, hp, rfl⟩) rfl
        dsimp only at this
        rw [if_neg (fun hm => hne (memN_iff.1 hm))] at this; exact this
      obtain ⟨k1, k2⟩ := g4 E' hw hE1 hF
      obtain ⟨k3, k4⟩ := f4 E' hw hE2 hF
      refine ⟨fun q hq => ?_, fun p hp => (List.mem_append.1 hp).elim (k2 p) (k4 p)⟩
      rcases List.mem_cons.1 hq with rfl | hq
      · exact k1
      · exact k3 q hq

theorem rowsAll_spec (h : Rep W0 F0 ρ s a w) : ∀ {l : List (Nat × List PS × SP × Nat)} {obs : List (Nat × AV)} {used : List Nat} {vs : List (Nat × List PS × AV)}, rowsAll s l = some (obs, used, vs) → (namesOf obs).Nodup →
    (∀ q ∈ used, ∃ c, s.o q = some c ∧ c.sh ≠ .bad) ∧ ∃ (τ : Nat → Option Loc) (pl : List (Nat × Nat)), (pl.map (·.2)).Sublist (blk ρ used) ∧ (∀ o k, o ∈ namesOf obs → τ o = some k → (o, k.b) ∈ pl) ∧
      ∀ E' : Env, E'.w = w → OnE E' obs τ → (∀ b, E'.F b → Env.F ⟨w, s.o, ρ⟩ b) → (∀ o p v' c, rowIn vs o = some (p, v') → s.o o = some c → ∃ k, Sh.off p c.sh = some (k, .leaf) ∧
        ∀ lo cells T fr, ρ o = some lo → w.heap[lo.b]? = some (.cells cells T fr) → Ce E' v' (((seg cells lo.off c.sh.size).drop k).take 1)) ∧ ObsOK E' obs := by
  intro l
  induction l with
  | nil =>
    intro obs used vs ho _
    simp only [rowsAll, Option.some.injEq, Prod.mk.injEq] at ho
    obtain ⟨rfl, rfl, rfl⟩ := ho
    exact ⟨by simp, fun _ => none, [], List.Sublist.refl _, by simp [namesOf], fun E' _ _ _ => ⟨fun o p nm c hr => by simp [rowIn] at hr, by intro p hp; simp at hp⟩⟩
  | cons q l ih =>
    obtain ⟨o1, p1, sp, nm1⟩ := q
    intro obs used vs ho hn
    simp only [rowsAll] at ho
    split at ho
    case h_2 => cases ho
    rename_i c1 hc1
    split at ho
    case h_2 => cases ho
    rename_i v hv
    split at ho
    case h_2 => cases ho
    rename_i k1 hoff
    split at ho
    case h_2 => cases ho
    rename_i v' l1 os h1
    split at ho
    case h_2 => cases ho
    rename_i obs' used' vs' h2
    simp only [Option.some.injEq, Prod.mk.injEq] at ho
    obtain ⟨rfl, rfl, rfl⟩ := ho
    have hn' : (namesOf l1 ++ namesOf obs').Nodup := by simpa [namesOf] using hn
    rw [List.nodup_append] at hn'
    obtain ⟨hn1, hn2, hdis⟩ := hn'
    have hbad : c1.sh ≠ .bad := fun e => by rw [e] at hoff; cases p1 with
      | nil => simp [Sh.off] at hoff
      | cons b p1 => cases b <;> simp [Sh.off, Sh.nth] at hoff
    rcases h.ob o1 c1 hc1 hbad with ⟨lo1, cells1, T1, fr1, cs1, e1, e2, e3, e4, e5, e6⟩ | ⟨_, t, rfl⟩
    case inr =>
      exfalso
      cases p1 with
      | nil => simp [Sh.off, AV.sh] at hoff
      | cons b p1 =>
        cases b with
        | fld i => simp [AV.at, AV.nth] at hv
        | idx i =>
          simp only [AV.sh, Sh.off] at hoff
          split at hoff
          · rename_i hh; simp at hh; omega
          · cases hoff
    have hlen := e3.len
    have hcs : seg cells1 lo1.off c1.sh.size = cs1 := by rw [← hlen]; exact e5
    have hce := ce_at hv hoff e3
    obtain ⟨g1, τ1, pl, g2, g3, g4⟩ := ownSP_spec h hce h1
    obtain ⟨f1, τ, pl', f2, f3, f4⟩ := ih h2 hn2
    refine ⟨fun q hq => (List.mem_append.1 hq).elim (g1 q) (f1 q), fun o => if memN o (namesOf l1) then τ1 o else τ o, pl ++ pl', by rw [List.map_append, blk_append]; exact g2.append f2, fun o k ho hk => ?_, fun E' hw hE hF => ?_⟩
    · dsimp only at hk
      by_cases e : o ∈ namesOf l1
      · rw [if_pos (memN_iff.2 e)] at hk
        exact List.mem_append_left _ (g3 o k e hk)
      · rw [if_neg (fun hm => e (memN_iff.1 hm))] at hk
        have ho : o ∈ namesOf l1 ++ namesOf obs' := by simpa [namesOf] using ho
        exact List.mem_append_right _ (f3 o k ((List.mem_append.1 ho).resolve_left e) hk)
    · have hE1 : OnE E' l1 τ1 := fun p hp => by
        have := hE p (List.mem_append_left _ hp)
        have hm : p.1 ∈ namesOf l1 := List.mem_map.2 ⟨p, hp, rfl⟩
        dsimp only at this
        rw [if_pos (memN_iff.2 hm)] at this; exact this
      have hE2 : OnE E' obs' τ := fun p hp => by
        have := hE p (List.mem_append_right _ hp)
        have hne : p.1 ∉ namesOf l1 := fun e => hdis p.1 e p.1 (List.mem_map.2 ⟨p, hp, rfl⟩) rfl
        dsimp only at this
        rw [if_neg (fun hm => hne (memN_iff.1 hm))] at this; exact this
      obtain ⟨k2, k3⟩ := g4 E' hw hE1 hF
      obtain ⟨k4, k5⟩ := f4 E' hw hE2 hF
      refine ⟨fun o p nm c hr hc => ?_, fun p hp => (List.mem_append.1 hp).elim (k3 p) (k5 p)⟩
      simp only [rowIn] at hr
      cases eb : Nat.beq o1 o with
      | true =>
        rw [eb] at hr
        simp only [cond_true, Option.some.injEq, Prod.mk.injEq] at hr
        obtain ⟨rfl, rfl⟩ := hr
        have : o1 = o := Nat.eq_of_beq_eq_true eb
        subst this
        rw [hc1] at hc
        cases hc
        refine ⟨k1, hoff, fun lo' cells T fr hl hh => ?_⟩
        have e1 : ρ o1 = some lo1 := e1
        rw [e1] at hl
        cases hl
        have e2 : w.heap[lo1.b]? = some (.cells cells1 T1 fr1) := e2
        rw [e2] at hh
        cases hh
        rw [hcs]; exact k2
      | false =>
        rw [eb] at hr
        exact k4 o p nm c hr hc
/-- what is kept of the objects -/
theorem keepR_spec {rows : List (Nat × List PS × AV)} : ∀ {l : List Nat} {l0 l1 : List (Nat × AV)}, keepR s rows l = some (l0, l1) → namesOf l0 = l ∧ namesOf l1 = l ∧
    ∀ q, q ∈ l1 → ∃ c c0, s.o q.1 = some c ∧ (q.1, c0) ∈ l0 ∧ ((rowIn rows q.1 = none ∧ c0 = c ∧ q.2 = c) ∨ ∃ p nm, rowIn rows q.1 = some (p, nm) ∧ AV.put p c .nils = some c0 ∧ AV.put p c0 nm = some q.2) := by
  intro l
  induction l with
  | nil => intro l0 l1 h; simp only [keepR, Option.some.injEq, Prod.mk.injEq] at h; obtain ⟨rfl, rfl⟩ := h; exact ⟨rfl, rfl, fun q hq => by cases hq⟩
  | cons o l ih =>
    intro l0 l1 h
    simp only [keepR] at h
    split at h
    case h_2 => cases h
    rename_i c hc
    split at h
    · rename_i hr
      split at h
      case h_2 => cases h
      rename_i m0 m1 hk
      simp only [Option.some.injEq, Prod.mk.injEq] at h
      obtain ⟨rfl, rfl⟩ := h
      obtain ⟨i1, i2, i3⟩ := ih hk
      refine ⟨by simp only [namesOf, List.map_cons] at i1 ⊢; rw [i1], by simp only [namesOf, List.map_cons] at i2 ⊢; rw [i2], fun q hq => ?_⟩
      rcases List.mem_cons.1 hq with rfl | hq
      · exact ⟨c, c, hc, List.mem_cons_self .., Or.inl ⟨hr, rfl, rfl⟩⟩
      · obtain ⟨c', c0, j1, j2, j3⟩ := i3 q hq
        exact ⟨c', c0, j1, List.mem_cons_of_mem _ j2, j3⟩
    · rename_i p nm hr
      split at h
      case h_2 => cases h
      rename_i c0 hp0
      split at h
      case h_2 => cases h
      rename_i c1 hp1
      split at h
      case h_2 => cases h
      rename_i m0 m1 hk
      simp only [Option.some.injEq, Prod.mk.injEq] at h
      obtain ⟨rfl, rfl⟩ := h
      obtain ⟨i1, i2, i3⟩ := ih hk
      refine ⟨by simp only [namesOf, List.map_cons] at i1 ⊢; rw [i1], by simp only [namesOf, List.map_cons] at i2 ⊢; rw [i2], fun q hq => ?_⟩
      rcases List.mem_cons.1 hq with rfl | hq
      · exact ⟨c, c0, hc, List.mem_cons_self .., Or.inr ⟨p, nm, hr, hp0, hp1⟩⟩
      · obtain ⟨c', c0, j1, j2, j3⟩ := i3 q hq
        exact ⟨c', c0, j1, List.mem_cons_of_mem _ j2, j3⟩
theorem spl_one (A B : List Value) (x y : Value) : spl (A ++ y :: B) A.length [x] = A ++ x :: B := by
  unfold spl
  simp
theorem spl_back {cs : List Value} {k : Nat} {x : Value} (h : k < cs.length) : spl (spl cs k [x]) k ((cs.drop k).take 1) = cs := by
  have e : (cs.drop k).take 1 = [cs[k]] := by rw [List.drop_eq_getElem_cons h]; rfl
  have d : cs = cs.take k ++ cs[k] :: cs.drop (k + 1) := by rw [← List.drop_eq_getElem_cons h, List.take_append_drop]
  have l1 : (cs.take k).length = k := by rw [List.length_take]; omega
  rw [e]
  generalize cs[k] = y at *
  generalize cs.take k = A at *
  generalize cs.drop (k + 1) = B at *
  subst l1
  rw [d, spl_one, spl_one]

theorem keepT_spec : ∀ {l : List Nat} {q : Nat × AV}, q ∈ keepT s l → q.2 = s.t q.1 := by
  intro l
  induction l with
  | nil => intro q h; simp [keepT] at h
  | cons t l ih =>
    intro q h
    simp only [keepT, List.mem_cons] at h
    rcases h with rfl | h
    · rfl
    · exact ih h

theorem nrm_spec (h : Rep W0 F0 ρ s a w) {ann : Ann} (hfx : ∀ p, p ∈ F0.fx → ∀ o, o ∈ p.1.names → o ∈ ann.objs) (hn : nrm ann s = some s') : ∃ ρ', Rep W0 F0 ρ' s' a w := by
  unfold nrm at hn
  split at hn
  case h_2 => cases hn
  rename_i ts obs1 used1 hown
  split at hn
  case h_2 => cases hn
  rename_i obs2 used2 vs hrow
  split at hn
  case h_2 => cases hn
  rename_i l0 l hl
  generalize hcond : (nodupN ((used1 ++ used2) ++ ann.objs) && nodupN (namesOf (l ++ (obs1 ++ obs2))) && subN (namesAll (keepT s ann.keep) ++ namesAll l0) ann.objs) = b at hn
  cases b with
  | false => cases hn
  | true =>
    simp only [cond_true, Option.some.injEq] at hn
    subst hn
    simp only [Bool.and_eq_true] at hcond
    obtain ⟨⟨c1, c2⟩, c3⟩ := hcond
    have c1 := nodupN_iff.1 c1
    have c2 := nodupN_iff.1 c2
    have c3 := subN_spec c3
    obtain ⟨hnl0, hnl, hlo⟩ := keepR_spec hl
    have c2' : (namesOf l ++ namesOf (obs1 ++ obs2)).Nodup := by simpa [namesOf] using c2
    rw [List.nodup_append] at c1 c2'
    obtain ⟨nu, nob, dis⟩ := c1
    obtain ⟨n1, n2, dis2⟩ := c2'
    have n2' : (namesOf obs1 ++ namesOf obs2).Nodup := by simpa [namesOf] using n2
    rw [List.nodup_append] at n2'
    obtain ⟨m1, m2, dis3⟩ := n2'
    obtain ⟨hlive1, τ1, pl1, hsub1, hpl1, hE1⟩ := ownAll_spec h hown m1
    obtain ⟨hlive2, τ2, pl2, hsub2, hpl2, hE2⟩ := rowsAll_spec h hrow m2
    -- the two kinds of new rows together
    let obs := obs1 ++ obs2
    let used := used1 ++ used2
    let τ : Nat → Option Loc := fun o => if memN o (namesOf obs1) then τ1 o else τ2 o
    have t1 : ∀ o, o ∈ namesOf obs1 → τ o = τ1 o := fun o ho => by show (if memN o (namesOf obs1) then _ else _) = _; rw [if_pos (memN_iff.2 ho)]
    have t2 : ∀ o, o ∈ namesOf obs2 → τ o = τ2 o := fun o ho => by
      show (if memN o (namesOf obs1) then _ else _) = _
      rw [if_neg]
      intro hm
      exact dis3 o (memN_iff.1 hm) o ho rfl
    have hlive : ∀ q ∈ used, ∃ c, s.o q = some c ∧ c.sh ≠ .bad := fun q hq => (List.mem_append.1 hq).elim (hlive1 q) (hlive2 q)
    have hsub : ((pl1 ++ pl2).map (·.2)).Sublist (blk ρ used) := by rw [List.map_append]; show List.Sublist _ (blk ρ (used1 ++ used2)); rw [blk_append]; exact hsub1.append hsub2
    have hno : namesOf obs = namesOf obs1 ++ namesOf obs2 := by simp [obs, namesOf]
    have hpl : ∀ o k, o ∈ namesOf obs → τ o = some k → (o, k.b) ∈ pl1 ++ pl2 := fun o k ho hk => by
      rw [hno] at ho
      rcases List.mem_append.1 ho with hm | hm
      · rw [t1 o hm] at hk; exact List.mem_append_left _ (hpl1 o k hm hk)
      · rw [t2 o hm] at hk; exact List.mem_append_right _ (hpl2 o k hm hk)
    have hnd := hsub.nodup (blk_nodup h nu hlive)
    let ρ' : Nat → Option Loc := fun o => if memN o ann.objs then ρ o else τ o
    have r1 : ∀ o, o ∈ ann.objs → ρ' o = ρ o := fun o ho => by show (if memN o ann.objs then _ else _) = _; rw [if_pos (memN_iff.2 ho)]
    have r2 : ∀ o, o ∈ namesOf obs → ρ' o = τ o := fun o ho => by
      show (if memN o ann.objs then _ else _) = _
      rw [if_neg]
      intro hm
      exact dis2 o (by rw [hnl]; exact memN_iff.1 hm) o ho rfl
    let s2 : St := ⟨s.n, ts ++ keepT s ann.keep, l ++ obs⟩
    let E' : Env := ⟨w, s2.o, ρ'⟩
    have so : ∀ q, q ∈ l ++ obs → s2.o q.1 = some q.2 := fun q hq => look?_mem c2 hq
    have os : ∀ o c, s2.o o = some c → (o, c) ∈ l ++ obs := fun o c hc => look?_some hc
    have onobs1 : OnE E' obs1 τ1 := fun p hp => by
      have hm : p.1 ∈ namesOf obs1 := List.mem_map.2 ⟨p, hp, rfl⟩
      exact ⟨so p (List.mem_append_right _ (List.mem_append_left _ hp)), (r2 _ (by rw [hno]; exact List.mem_append_left _ hm)).trans (t1 _ hm)⟩
    have onobs2 : OnE E' obs2 τ2 := fun p hp => by
      have hm : p.1 ∈ namesOf obs2 := List.mem_map.2 ⟨p, hp, rfl⟩
      exact ⟨so p (List.mem_append_right _ (List.mem_append_right _ hp)), (r2 _ (by rw [hno]; exact List.mem_append_right _ hm)).trans (t2 _ hm)⟩
    have inl : ∀ q, q ∈ l → q.1 ∈ ann.objs := fun q hq => by rw [← hnl]; exact List.mem_map.2 ⟨q, hq, rfl⟩
    -- an object that is kept was there, with a content of the same form
    have hlo' : ∀ q, q ∈ l → ∃ c, s.o q.1 = some c ∧ q.2.sh = c.sh := fun q hq => by
      obtain ⟨c, c0, j1, j2, j3⟩ := hlo q hq
      rcases j3 with ⟨_, _, e⟩ | ⟨p, nm, _, e1, e2⟩
      · exact ⟨c, j1, by rw [e]⟩
      · exact ⟨c, j1, (put_sh e2).trans (put_sh e1)⟩
    have ownblk : ∀ o k, o ∈ namesOf obs → τ o = some k → ∃ q c k', q ∈ used ∧ s.o q = some c ∧ c.sh ≠ .bad ∧ ρ q = some k' ∧ k'.b = k.b := by
      intro o k ho hk
      exact blk_mem hlive (hsub.subset (List.mem_map.2 ⟨_, hpl o k ho hk, rfl⟩))
    have hF : ∀ b, E'.F b → Env.F ⟨w, s.o, ρ⟩ b := by
      rintro b ⟨o, c, k, h1, h2, h3, h4⟩
      have h3 : ρ' o = some k := h3
      rcases List.mem_append.1 (os o c h1) with hm | hm
      · rw [r1 o (inl _ hm)] at h3
        obtain ⟨c', g1, g2⟩ := hlo' _ hm
        exact ⟨o, c', k, g1, by rw [← g2]; exact h2, h3, h4⟩
      · have hm' : o ∈ namesOf obs := List.mem_map.2 ⟨_, hm, rfl⟩
        rw [r2 o hm'] at h3
        obtain ⟨q, c', k', g1, g2, g3, g4, g5⟩ := ownblk o k hm' h3
        exact ⟨q, c', k', g2, g3, g4, g5.trans h4⟩
    obtain ⟨ht, hob1⟩ := hE1 E' rfl onobs1 hF
    obtain ⟨hrw, hob2⟩ := hE2 E' rfl onobs2 hF
    have hob : ∀ p, p ∈ obs → ObOK E' p.1 p.2 := fun p hp => (List.mem_append.1 hp).elim (hob1 p) (hob2 p)
    have hP : Part ⟨w, s.o, ρ⟩ E' (· ∈ ann.objs) := by
      refine ⟨rfl, fun o ho d hd => ?_, fun o ho => r1 o ho, hF⟩
      rw [← hnl] at ho
      obtain ⟨q, hq, rfl⟩ := List.mem_map.1 ho
      obtain ⟨c, g1, g2⟩ := hlo' q hq
      have hd : s.o q.1 = some d := hd
      rw [g1] at hd
      cases hd
      exact ⟨q.2, so q (List.mem_append_left _ hq), g2⟩
    refine ⟨ρ', h.size, h.defers, fun t => ?_, fun o c hc hs => ?_, ?_, ?_, h.fr, fun p hp => hP.val (hfx p hp) (h.fx p hp)⟩
    · show Val E' (look (ts ++ keepT s ann.keep) t) _
      rcases look_mem (l := ts ++ keepT s ann.keep) (i := t) with e | e
      · rw [e]; exact Val.top _
      · rcases List.mem_append.1 e with e | e
        · exact ht _ e
        · have hv := keepT_spec e
          have hv : look (ts ++ keepT s ann.keep) t = s.t t := hv
          have hnm := fun i hi => c3 i (List.mem_append_left _ (namesAll_mem e i hi))
          rw [hv] at hnm ⊢
          exact hP.val hnm (h.tm t)
    · rcases List.mem_append.1 (os o c hc) with hm | hm
      · obtain ⟨c', c0, j1, j2, j3⟩ := hlo _ hm
        have j1 : s.o o = some c' := j1
        have hnm := fun i hi => c3 i (List.mem_append_right _ (namesAll_mem j2 i hi))
        obtain ⟨c'', k1, k2⟩ := hlo' _ hm
        have k1 : s.o o = some c'' := k1
        rw [j1] at k1
        cases k1
        have hs' : c'.sh ≠ .bad := by rw [← k2]; exact hs
        rcases j3 with ⟨_, rfl, e⟩ | ⟨p, nm, hr, hp0, hp1⟩
        · have e : c = c0 := e
          subst e
          rcases h.ob o c j1 hs with ⟨k, cells, T, fr, cs, g1, g2, g3, g4, g5, g6⟩ | g
          · exact .inl ⟨k, cells, T, fr, cs, (r1 o (inl _ hm)).trans g1, g2, hP.ce hnm g3, g4, g5, g6⟩
          · exact .inr ⟨(r1 o (inl _ hm)).trans g.1, g.2⟩
        · have hr : rowIn vs o = some (p, nm) := hr
          have hp1 : AV.put p c0 nm = some c := hp1
          obtain ⟨kk, hoff, hv⟩ := hrw o p nm c' hr j1
          rcases h.ob o c' j1 hs' with ⟨k, cells, T, fr, cs, g1, g2, g3, g4, g5, g6⟩ | ⟨_, t, rfl⟩
          · have hlen := g3.len
            have hcs : seg cells k.off c'.sh.size = cs := by rw [← hlen]; exact g5
            have hv := hv k cells T fr g1 g2
            rw [hcs] at hv
            have b0 := (ce_put (E := ⟨w, s.o, ρ⟩) hp0 hoff g3 (vs := [.slice none 0 0]) rfl).1
            have b1 := hP.ce hnm b0
            have b2 := ce_put hp1 (by rw [put_sh hp0]; exact hoff) b1 hv
            have hk : kk < cs.length := by
              have := b2.2
              rw [List.length_take, List.length_drop] at this
              have e1 : Sh.size .leaf = 1 := rfl
              rw [e1] at this
              omega
            rw [spl_back hk] at b2
            exact .inl ⟨k, cells, T, fr, cs, (r1 o (inl _ hm)).trans g1, g2, b2.1, g4, g5, g6⟩
          · exfalso
            cases p with
            | nil => simp [Sh.off, AV.sh] at hoff
            | cons b p =>
              cases b with
              | fld i => simp [Sh.off, AV.sh, Sh.nth] at hoff
              | idx i =>
                simp only [AV.sh, Sh.off] at hoff
                split at hoff
                · rename_i hh; simp at hh; omega
                · cases hoff
      · exact hob _ hm
    · intro o o' c c' k k' hc hc' hs hs' hk hk' hb
      have mixed : ∀ {o o' : Nat} {c c' : AV} {k k' : Loc}, (o, c) ∈ l → c.sh ≠ .bad → (o', c') ∈ obs → ρ' o = some k → ρ' o' = some k' → k.b = k'.b → False := by
        intro o o' c c' k k' hm hs hm' hk hk' hb
        have hn' : o' ∈ namesOf obs := List.mem_map.2 ⟨_, hm', rfl⟩
        rw [r1 o (inl _ hm)] at hk
        rw [r2 o' hn'] at hk'
        obtain ⟨q, d, k2, g1, g2, g3, g4, g5⟩ := ownblk o' k' hn' hk'
        obtain ⟨c2, x1, x2⟩ := hlo' _ hm
        have := h.inj o q c2 d k k2 x1 g2 (by rw [← x2]; exact hs) g3 hk g4 (hb.trans g5.symm)
        subst this
        exact dis _ g1 _ (inl _ hm) rfl
      rcases List.mem_append.1 (os o c hc) with hm | hm <;> rcases List.mem_append.1 (os o' c' hc') with hm' | hm'
      · rw [r1 o (inl _ hm)] at hk
        rw [r1 o' (inl _ hm')] at hk'
        obtain ⟨c2, x1, x2⟩ := hlo' _ hm
        obtain ⟨c3', y1, y2⟩ := hlo' _ hm'
        exact h.inj o o' c2 c3' k k' x1 y1 (by rw [← x2]; exact hs) (by rw [← y2]; exact hs') hk hk' hb
      · exact (mixed hm hs hm' hk hk' hb).elim
      · exact (mixed hm' hs' hm hk' hk hb.symm).elim
      · have e1 : o ∈ namesOf obs := List.mem_map.2 ⟨_, hm, rfl⟩
        have e2 : o' ∈ namesOf obs := List.mem_map.2 ⟨_, hm', rfl⟩
        rw [r2 o e1] at hk
        rw [r2 o' e2] at hk'
        have g1 := hpl o k e1 hk
        have g2 := hpl o' k' e2 hk'
        rw [hb] at g1
        exact pl_inj hnd g1 g2
    · intro o c k hc hs hk
      rcases List.mem_append.1 (os o c hc) with hm | hm
      · rw [r1 o (inl _ hm)] at hk
        obtain ⟨c2, x1, x2⟩ := hlo' _ hm
        exact h.own o c2 k x1 (by rw [← x2]; exact hs) hk
      · have e1 : o ∈ namesOf obs := List.mem_map.2 ⟨_, hm, rfl⟩
        rw [r2 o e1] at hk
        obtain ⟨q, d, k2, g1, g2, g3, g4, g5⟩ := ownblk o k e1 hk
        rw [← g5]; exact h.own q d k2 g2 g3 g4

def Ex.x : Ex → Exit
  | .normal => .normal
  | .ret => .ret
  | .exit i => .exit i

theorem code_wp (hC : CxOK P C) (hm : P.follows .mixedOrders = true) {ann : Nat → Ann} (hfx : ∀ i p, p ∈ F0.fx → ∀ o, o ∈ p.1.names → o ∈ (ann i).objs) :
    ∀ {c : Code} {R : Type} {r : R} {s : St} {k : Ex → St → Option R} {a : Act} {w : World} {ρ : Nat → Option Loc} {Q : Exit → Act → World → Prop}, evalK C ann c s k = some r → Rep W0 F0 ρ s a w →
      (∀ e s' a' w' ρ', Rep W0 F0 ρ' s' a' w' → k e s' = some r → Q e.x a' w') → c.wp P Q a w := by
  intro c
  induction c with
  | skip => intro R r s k a w ρ Q hk h hQ; exact wp_skip (hQ .normal s a w ρ h hk)
  | label l => intro R r s k a w ρ Q hk h hQ; exact wp_label (hQ .normal s a w ρ h hk)
  | region id ops draw =>
    intro R r s k a w ρ Q hk h hQ
    exact region_wp hC hm (k := fun s' => k .normal s') (fun s' a' w' ρ' hr hk' => hQ .normal s' a' w' ρ' hr hk') h hk
  | seq x y ihx ihy =>
    intro R r s k a w ρ Q hk h hQ
    refine wp_seq (ihx hk h fun e s' a' w' ρ' hr hk' => ?_)
    cases e with
    | normal =>
      dsimp only at hk'
      split at hk'
      · rename_i s2 hs2
        unfold cutS at hs2
        cases hc : (ann (Nat.add 1000000 (firstRegion y))).cut with
        | true =>
          rw [hc] at hs2
          obtain ⟨ρ2, h2⟩ := nrm_spec hr (hfx _) hs2
          exact ihy hk' h2 hQ
        | false =>
          rw [hc] at hs2
          have hs2 : some s' = some s2 := hs2
          cases hs2
          exact ihy hk' hr hQ
      · cases hk'
    | ret => exact hQ .ret s' a' w' ρ' hr hk'
    | exit i => exact hQ (.exit i) s' a' w' ρ' hr hk'
  | cond c x y ihx ihy =>
    intro R r s k a w ρ Q hk h hQ
    simp only [evalK] at hk
    split at hk
    · rename_i t
      split at hk
      · rename_i b hb
        have ht := h.tm t
        rw [hb] at ht
        refine wp_cond (t := b) ht.bool_eq ?_
        cases b with
        | true => exact ihx hk (h.know ht) hQ
        | false => exact ihy hk (h.know ht) hQ
      · cases hk
    · rename_i b
      refine wp_cond (t := b) rfl ?_
      cases b with
      | true => exact ihx hk h hQ
      | false => exact ihy hk h hQ
    · cases hk
  | block id c ih =>
    intro R r s k a w ρ Q hk h hQ
    refine wp_block (ih hk h fun e s' a' w' ρ' hr hk' => ?_)
    cases e with
    | normal => exact hQ .normal s' a' w' ρ' hr hk'
    | ret => exact hQ .ret s' a' w' ρ' hr hk'
    | exit j =>
      show if j = id then _ else _
      dsimp only at hk'
      by_cases e : j = id
      · subst e
        simp at hk'
        rw [if_pos rfl]
        exact hQ .normal s' a' w' ρ' hr hk'
      · have : Nat.beq j id = false := by rw [Bool.eq_false_iff]; intro e'; exact e (Nat.eq_of_beq_eq_true e')
        simp only [this, cond_false] at hk'
        rw [if_neg e]
        exact hQ (.exit j) s' a' w' ρ' hr hk'
  | scope c ih =>
    intro R r s k a w ρ Q hk h hQ
    refine wp_scope_straight (ih hk h fun e s' a' w' ρ' hr hk' => ?_)
    cases e with
    | normal => exact hQ .normal s' a' w' ρ' hr hk'
    | ret => exact hQ .ret s' a' w' ρ' hr hk'
    | exit j => exact hQ (.exit j) s' a' w' ρ' hr hk'
  | loop c ih =>
    intro R r s k a w ρ Q hk h hQ
    simp only [evalK] at hk
    split at hk
    · rename_i s0 hs0
      obtain ⟨ρ0, h0⟩ := nrm_spec h (hfx _) hs0
      have key : ∀ (n : Nat) {s : St} {a : Act} {w : World} {ρ : Nat → Option Loc}, loopK (nrm (ann (firstRegion c))) (evalK C ann c) k n s = some r → Rep W0 F0 ρ s a w → Code.rounds P c Q n a w := by
        intro n
        induction n with
        | zero => intro s a w ρ hk h; simp [loopK] at hk
        | succ n ihn =>
          intro s a w ρ hk h
          rw [rounds_succ]
          refine ih hk h fun e s' a' w' ρ' hr hk' => ?_
          cases e with
          | normal =>
            dsimp only at hk'
            split at hk'
            · rename_i s2 hs2
              obtain ⟨ρ2, h2⟩ := nrm_spec hr (hfx _) hs2
              exact ihn hk' h2
            · cases hk'
          | ret => exact hQ .ret s' a' w' ρ' hr hk'
          | exit j => exact hQ (.exit j) s' a' w' ρ' hr hk'
      exact wp_loop_rounds _ (key _ hk h0)
    · cases hk
  | exit id => intro R r s k a w ρ Q hk h hQ; exact wp_exit (hQ (.exit id) s a w ρ h hk)
  | ret => intro R r s k a w ρ Q hk h hQ; exact wp_ret (hQ .ret s a w ρ h hk)
  | _ => intro R r s k a w ρ Q hk h hQ; simp [evalK] at hk
end
end Go.Ev

/- A function whose evaluation is its model keeps the promise. -/
set_option linter.unusedVariables false
set_option linter.unusedSimpArgs false
namespace Go.Ev
open Go

theorem valT_fx {E : Env} : ∀ {c : AV} {us : List Value}, ValT E c us → ∀ p, p ∈ fxOf c us → Val1 E p.1 p.2 := by
  intro c
  induction c with
  | cons v r ihv ihr =>
    intro us k p hp
    obtain ⟨u, r', rfl, h1, h2⟩ := k
    simp only [fxOf, List.mem_cons] at hp
    rcases hp with rfl | hp
    · exact h1
    · exact ihr h2 p hp
  | _ => intro us k p hp; simp [fxOf] at hp
theorem skel_fx {E : Env} : ∀ {v : AV} {us : List Value}, (∀ p, p ∈ fxOf v us → Val E p.1 p.2) → ∀ p, p ∈ fxOf (skel v) us → Val E p.1 p.2 := by
  intro v
  induction v with
  | cons h r _ ih =>
    intro us hf p hp
    cases us with
    | nil => simp [skel, fxOf] at hp
    | cons u us =>
      simp only [skel, fxOf, List.mem_cons] at hp
      rcases hp with rfl | hp
      · dsimp only
        split
        · exact hf _ (List.mem_cons_self ..)
        · exact hf _ (List.mem_cons_self ..)
        · exact Val.top _
      · exact ih (fun q hq => hf q (List.mem_cons_of_mem _ hq)) p hp
  | _ => intro us hf p hp; simp [skel, fxOf] at hp

theorem fxOf_names : ∀ {c : AV} {us : List Value} {p : AV × Value}, p ∈ fxOf c us → ∀ o, o ∈ p.1.names → o ∈ c.names := by
  intro c
  induction c with
  | cons v r _ ih =>
    intro us p hp o ho
    cases us with
    | nil => simp [fxOf] at hp
    | cons u us =>
      simp only [fxOf, List.mem_cons] at hp
      simp only [AV.names, List.mem_append]
      rcases hp with rfl | hp
      · exact .inl ho
      · exact .inr (ih hp o ho)
  | _ => intro us p hp; simp [fxOf] at hp
theorem setArgs_look {E : Env} : ∀ {c : AV} {us : List Value}, ValT E c us → ∀ (i t : Nat), look (setArgs c i) t = .top ∨ ∃ j u, t = i + j ∧ us[j]? = some u ∧ Val1 E (look (setArgs c i) t) u := by
  intro c
  induction c with
  | cons v r ihv ihr =>
    intro us k i t
    obtain ⟨u, r', rfl, h1, h2⟩ := k
    simp only [setArgs]
    rw [look_cons]
    by_cases e : i = t
    · subst e; rw [if_pos rfl]; exact .inr ⟨0, u, rfl, rfl, h1⟩
    · rw [if_neg e]
      rcases ihr h2 (i + 1) t with h | ⟨j, u', e1, e2, e3⟩
      · exact .inl h
      · exact .inr ⟨j + 1, u', by omega, by simpa using e2, e3⟩
  | _ => intro us k i t; exact .inl rfl

section
variable {P : Program} {C : Cx} {W0 : World} {F0 : Base} {ρ : Nat → Option Loc} {s s' : St} {a : Act} {w : World}

def resOne (tmps : Array Value) : ResultVar → Sem Value
  | .tmp t => pure (tmps.getD t undef)
  | .cell a t => do loadVar t (← asAddr (tmps.getD a undef))

theorem resVal_out {α : Type} (hD : DOk P C) (h : Rep W0 F0 ρ s a w) {r : α} {x : ResultVar} {k : AV → Pg α} (ho : (resVal C x k).Out s r s') :
    ∃ v u, (k v).Out s r s' ∧ Val ⟨w, s.o, ρ⟩ v u ∧ (resOne a.tmps x).run P w = .ok u w := by
  cases x with
  | tmp t => exact ⟨_, _, ho, h.tm t, rfl⟩
  | cell t T =>
    simp only [resVal] at ho
    have ho : (Pg.rdT t _).Out s r s' := ho
    simp only [Pg.Out] at ho
    split at ho
    · rename_i q p hq
      have h1 := h.tm t
      rw [hq] at h1
      obtain ⟨c, hc, hd, ho⟩ := ho
      dsimp only at ho
      split at ho
      · rename_i v' hv'
        generalize hl : loadOk (C.D T) v' = b at ho
        cases b with
        | false => exact ho.elim
        | true =>
          obtain ⟨ad, hu, hx⟩ := h1.ref_eq
          obtain ⟨l, k', e, cells, T', fr, cs, g1, g2, g3, g4, g5, g6, g7, g8, g9⟩ := h.at_ref hx hc hd
          have hce := ce_at hv' g2 g5
          have hsh := at_off hv' g2
          have hseg : seg cells (l.off + k') v'.sh.size = (cs.drop k').take e.size := by rw [hsh, seg_sub g9, g7]
          obtain ⟨u, hr, hval⟩ := run_load_ce (w := w) (E := ⟨w, s.o, ρ⟩) hD hl g4 (off := l.off + k') (by rw [hsh]; omega) (by rw [hseg]; exact hce)
          refine ⟨v', u, ho, hval, ?_⟩
          simp only [resOne, hu, asAddr, Sem.run_bind]
          simp [g3, hr]
      · exact ho.elim
    · exact ho.elim

theorem resVals_out {α : Type} (hD : DOk P C) (h : Rep W0 F0 ρ s a w) {r : α} : ∀ {l : List ResultVar} {k : List AV → Pg α}, (resVals C l k).Out s r s' →
    ∃ vs us, (k vs).Out s r s' ∧ Vals ⟨w, s.o, ρ⟩ vs us ∧ (l.mapM (resOne a.tmps)).run P w = .ok us w := by
  intro l
  induction l with
  | nil => intro k ho; exact ⟨[], [], ho, rfl, by simp⟩
  | cons x l ih =>
    intro k ho
    obtain ⟨v, u, h1, h2, h3⟩ := resVal_out hD h ho
    obtain ⟨vs, us, g1, g2, g3⟩ := ih h1
    refine ⟨v :: vs, u :: us, g1, ⟨u, us, rfl, h2, g2⟩, ?_⟩
    simp [List.mapM_cons, h3, g3]

theorem results_run {fn : Func} {tmps : Array Value} {us : List Value} (h : (fn.results.toList.mapM (resOne tmps)).run P w = .ok us w) : (results fn tmps).run P w = .ok (retV us) w := by
  have e : results fn tmps = (do
      let vs ← fn.results.mapM (resOne tmps)
      pure (if h : vs.size = 1 then vs[0] else .tuple vs)) := by
    unfold results
    rfl
  rw [e, Array.mapM_eq_mapM_toList]
  simp only [Sem.run_bind, Sem.run_map, h]
  simp
  match us with
  | [] => simp [retV]
  | [u] => simp [retV]
  | u :: v :: r => simp [retV]

theorem run_callFunc_body {f : FuncId} {fn : Func} (hf : P.funcs[f]? = some fn) (hb : fn.body.isSome = true) (hname : (fn.name == "runtime.NumGoroutine") = false) (args : Array Value) :
    (callFunc f args).run P w = .ok (.enter f args) w := by
  have h2 : fn.body ≠ none := by intro e; rw [e] at hb; cases hb
  have h3 : fn.name ≠ "runtime.NumGoroutine" := by simpa using hname
  unfold callFunc
  simp [hf, h2, h3]

theorem finPg_out (hD : DOk P C) {fn : Func} {g : Sig} {v : AV} {fin : g.rs.den × g.ps.odn → g.T} {y : g.T} (hpar : g.ps.parOk = true) (hrl : g.rs.isList = true) (hrsl : g.rs.noSl = true) {us : List Value} (hlen : us.length = g.ps.len)
    (hfx : ∀ p, p ∈ fxOf v us → Val ⟨w, s.o, ρ⟩ p.1 p.2) (h : Rep W0 F0 ρ s a w) (ho : (finPg C fn g v fin).Out s y s') :
    ∃ r o rs bs1 bs2, y = fin (r, o) ∧ (results fn a.tmps).run P w = .ok (retV rs) w ∧ (bs1 ++ bs2).Nodup ∧ (∀ b, b ∈ bs1 ++ bs2 → F0.F b ∨ W0.heap.size ≤ b) ∧ (∀ F, Args w F g.rs r rs bs1) ∧ ∀ F, Outs w F g.ps o us bs2 := by
  unfold finPg at ho
  obtain ⟨vs, rs, ho, hvs, hres⟩ := resVals_out hD h ho
  obtain ⟨r, own, ro, bs1, ho, l1, s1, A1⟩ := exA_out h hrl hvs ho
  obtain ⟨o, own', ro', bs2, ho, l2, s2, A2⟩ := exO_out h hpar hlen hfx ho
  obtain ⟨hn, ho⟩ := out_bif' ho
  obtain ⟨hy, _⟩ := ho
  have hl : ∀ q ∈ own ++ own', ∃ c, s.o q = some c ∧ c.sh ≠ .bad := fun q hq => (List.mem_append.1 hq).elim (l1 q) (l2 q)
  have hsub : (bs1 ++ bs2).Sublist (blk ρ (own ++ own')) := by rw [blk_append]; exact s1.append s2
  refine ⟨r, o, rs, bs1, bs2, hy, results_run hres, hsub.nodup (blk_nodup h (nodupN_iff.1 hn) hl), fun b hb => ?_, fun F => A1 F (.inl hrsl), A2⟩
  obtain ⟨q, c, k, _, h1, h2, h3, h4⟩ := blk_mem hl (hsub.subset hb)
  rw [← h4]; exact h.own q c k h1 h2 h3

/-- a function whose evaluation is its model keeps the promise -/
theorem meets_of (hC : CxOK P C) (hm : P.follows .mixedOrders = true) {f : FuncId} {fn : Func} {c : Code} {g : Sig} {ann : Nat → Ann} (hf : P.funcs[f]? = some fn) (hb : fn.body = some c)
    (hname : (fn.name == "runtime.NumGoroutine") = false) (hok : g.ok = true) (hn : g.ps.len ≤ fn.ntmps) (fin : g.rs.den × g.ps.odn → g.T) (hfin : ∀ x p, g.res x (fin p) = p.1 ∧ g.out x (fin p) = p.2)
    (H : ∀ x, evalFn C ann fn c g x fin = g.m x) : Meets P f g := by
  intro w x us bs hbs hargs y hy
  simp only [Sig.ok, Bool.and_eq_true] at hok
  obtain ⟨⟨hrsl, hpar⟩, hrl⟩ := hok
  unfold CallsF
  rw [run_callFunc_body hf (by rw [hb]; rfl) hname]
  refine calls_of_wp hf hb ?_
  have hlen := args_len hargs
  have hev := H x
  rw [hy] at hev
  unfold evalFn at hev
  obtain ⟨v, s1, s1', ho, hs, hk⟩ := runK_out (Same.refl _) hev
  obtain ⟨cv, l, n, τ, pl, ho, hL, hLE⟩ := inA_out (parOk_isList hpar) hargs ho
  obtain ⟨s2, ho, n2, t2, w2, o2⟩ := out_newAll ho
  obtain ⟨rfl, rfl⟩ := ho
  have hob : ∀ o, St.o ⟨fn.ntmps, setArgs v 0, s1'.ob⟩ o = s1.o o := fun o => hs.o o
  have hdom : ∀ o c, s1.o o = some c → (o, c) ∈ l := by
    intro o c hc
    by_cases e : o ∈ namesOf l
    · obtain ⟨q, hq, rfl⟩ := List.mem_map.1 e
      rw [(w2 q hq).1] at hc
      cases hc; exact hq
    · rw [o2 o e] at hc; simp [St.o, look?] at hc
  let S : St := ⟨fn.ntmps, setArgs v 0, s1'.ob⟩
  have hSo : S.o = s1.o := funext hob
  let E : Env := ⟨w, S.o, τ⟩
  have hon : OnE E l τ := fun p hp => ⟨by show S.o p.1 = _; rw [hSo]; exact (w2 p hp).1, rfl⟩
  have hnames : ∀ o c, S.o o = some c → o ∈ namesOf l := fun o c hc => by rw [hSo] at hc; exact List.mem_map.2 ⟨_, hdom o c hc, rfl⟩
  have hF : ∀ b, E.F b → b ∈ bs := by
    rintro b ⟨o, c, k, h1, h2, h3, h4⟩
    have := hL.blk o k (hnames o c h1) h3
    rw [← h4]
    exact hL.sub.subset (List.mem_map.2 ⟨_, this, rfl⟩)
  obtain ⟨hval, hobs⟩ := hLE E rfl hon (.inr hF)
  have hrep : Rep w ⟨(· ∈ bs), fxOf (skel v) us⟩ τ S { tmps := us.toArray ++ Array.replicate (fn.ntmps - us.toArray.size) undef, defers := [] } w := by
    refine ⟨?_, rfl, fun t => ?_, fun o c hc hs => ?_, ?_, ?_, Fr.refl w _, fun p hp => skel_fx (fun q hq => .inl (valT_fx hval q hq)) p hp⟩
    · show (us.toArray ++ Array.replicate (fn.ntmps - us.toArray.size) undef).size = fn.ntmps
      simp; omega
    · show Val E (look (setArgs v 0) t) _
      rcases setArgs_look hval 0 t with e | ⟨j, u, e1, e2, e3⟩
      · rw [e]; exact Val.top _
      · have hj : j < us.length := (List.getElem?_eq_some_iff.1 e2).1
        have : (us.toArray ++ Array.replicate (fn.ntmps - us.toArray.size) undef).getD t undef = u := by
          subst e1
          have e2' := (List.getElem?_eq_some_iff.1 e2).2
          rw [Array.getD_eq_getD_getElem?, Array.getElem?_append_left (by simpa using (by omega : 0 + j < us.length))]
          simp [hj, e2']
        rw [this]; exact .inl e3
    · exact hobs _ (by rw [hSo] at hc; exact hdom o c hc)
    · intro o o' c c' k k' hc hc' _ _ hk hk' hbb
      have g1 := hL.blk o k (hnames o c hc) hk
      have g2 := hL.blk o' k' (hnames o' c' hc') hk'
      rw [hbb] at g1
      exact pl_inj (hL.sub.nodup hbs) g1 g2
    · intro o c k hc _ hk
      exact .inl (hL.sub.subset (List.mem_map.2 ⟨_, hL.blk o k (hnames o c hc) hk, rfl⟩))
  refine code_wp hC hm (F0 := ⟨(· ∈ bs), fxOf (skel v) us⟩) (fun i p hp o ho => ?_) hk hrep fun e s' a' w' ρ' hr hk' => ?_
  · exact List.mem_append_left _ (fxOf_names hp o ho)
  · have fin' : (finPg C fn g (skel v) fin).runK s' (fun y _ => some y) = some y → a'.defers = [] ∧ ∃ u, (results fn a'.tmps).run P w' = .ok u w' ∧ ∃ rs bs1 bs2, Found g x us bs w y u w' rs bs1 bs2 := by
      intro hk'
      obtain ⟨y', t1, t1', ho, _, e⟩ := runK_out (Same.refl _) hk'
      cases e
      obtain ⟨r, o, rs, bs1, bs2, rfl, h1, h2, h3, h4, h5⟩ := finPg_out hC.D hpar hrl hrsl hlen hr.fx hr ho
      obtain ⟨f1, f2⟩ := hfin x (r, o)
      exact ⟨hr.defers, _, h1, rs, bs1, bs2, rfl, hr.fr, h2, h3, by rw [f1]; exact h4 _, by rw [f2]; exact h5 _⟩
    cases e with
    | normal => exact fin' hk'
    | ret => exact fin' hk'
    | exit i => cases hk'

theorem mkD_ok {l : List (Nat × TI)} (h : ∀ q, q ∈ l → tiB P q.1 q.2 = true) (T : Nat) : mkD l T = TI.none ∨ Nonempty (TOk P T (mkD l T)) := by
  induction l with
  | nil => exact .inl rfl
  | cons q l ih =>
    obtain ⟨i, t⟩ := q
    simp only [mkD]
    cases e : Nat.beq i T with
    | true =>
      have e := Nat.eq_of_beq_eq_true e
      subst e
      exact .inr (tok_of_tiB (h (i, t) (List.mem_cons_self ..)))
    | false => exact ih fun q hq => h q (List.mem_cons_of_mem _ hq)
def tisB (P : Program) : List (Nat × TI) → Bool
  | [] => true
  | q :: r => tiB P q.1 q.2 && tisB P r
theorem tisB_spec : ∀ {l : List (Nat × TI)}, tisB P l = true → ∀ q, q ∈ l → tiB P q.1 q.2 = true := by
  intro l
  induction l with
  | nil => intro _ q hq; simp at hq
  | cons x l ih =>
    intro h q hq
    simp only [tisB, Bool.and_eq_true] at h
    rcases List.mem_cons.1 hq with rfl | hq
    · exact h.1
    · exact ih h.2 q hq
/-- a slice's or an array's element is known -/
def elemB (D : Nat → TI) : List (Nat × TI) → Bool
  | [] => true
  | q :: r => (match q.2.k with | .sl e => (D e).k.ok | .arr _ e => (D e).k.ok | _ => true) && elemB D r
theorem elemB_spec {D : Nat → TI} : ∀ {l : List (Nat × TI)}, elemB D l = true → ∀ T e, ((mkD l T).k = .sl e ∨ ∃ m, (mkD l T).k = .arr m e) → (D e).k ≠ .other := by
  intro l
  induction l with
  | nil => intro _ T e h; simp [mkD, TI.none] at h
  | cons x l ih =>
    obtain ⟨i, t⟩ := x
    intro h T e he
    simp only [elemB, Bool.and_eq_true] at h
    simp only [mkD] at he
    cases hb : Nat.beq i T with
    | true =>
      simp only [hb, cond_true] at he
      intro ho
      have h1 := h.1
      rcases he with he | ⟨m, he⟩ <;> rw [he] at h1 <;> simp [TK.ok, ho] at h1
    | false => simp only [hb, cond_false] at he; exact ih h.2 T e he
def GOk (P : Program) : List (Nat × Sig) → Prop
  | [] => True
  | q :: r => Meets P q.1 q.2 ∧ GOk P r
theorem mkG_ok : ∀ {l : List (Nat × Sig)}, GOk P l → ∀ f g, mkG l f = some g → Meets P f g := by
  intro l
  induction l with
  | nil => intro _ f g h; simp [mkG] at h
  | cons x l ih =>
    obtain ⟨i, t⟩ := x
    intro h f g hg
    simp only [mkG] at hg
    cases hb : Nat.beq i f with
    | true =>
      simp only [hb, cond_true, Option.some.injEq] at hg
      have e := Nat.eq_of_beq_eq_true hb
      subst e; subst hg
      exact h.1
    | false => simp only [hb, cond_false] at hg; exact ih h.2 f g hg
end
end Go.Ev

/- Functions of the library that have no body. -/
set_option linter.unusedVariables false
namespace Go.Ev
open Go

end Go.Ev

/- The body of a function, evaluated where it is called. -/
set_option linter.unusedVariables false
set_option linter.unusedSimpArgs false
namespace Go.Ev
open Go

section
variable {P : Program} {C : Cx} {W0 : World} {F0 : Base} {ρ : Nat → Option Loc} {s s' : St} {a : Act} {w : World}

theorem inF_out {α β : Type} {r : β} : ∀ {p : Pg α} {n : Nat} {tm : List (Nat × AV)} {f : Ft} {k : α → List (Nat × AV) → Ft → Pg β} {s sc : St}, Same sc ⟨n, tm, s.ob⟩ → (p.inF tm f k).Out s r s' →
    ∃ v s1 sc1 tm' f', p.Foot sc v sc1 f f' ∧ Same sc1 ⟨n, tm', s1.ob⟩ ∧ s1.n = s.n ∧ s1.tm = s.tm ∧ (k v tm' f').Out s1 r s' := by
  intro p
  induction p with
  | ret v => intro n tm f k s sc hs h; exact ⟨v, s, sc, tm, f, ⟨rfl, rfl, rfl⟩, hs, rfl, rfl, h⟩
  | fail => intro n tm f k s sc hs h; exact h.elim
  | rdT t g ih =>
    intro n tm f k s sc hs h
    have e : look tm t = sc.t t := hs.t t
    simp only [Pg.inF] at h
    rw [e] at h
    exact ih _ hs h
  | rdO o g ih =>
    intro n tm f k s sc hs h
    obtain ⟨c, h1, h2, h3⟩ := h
    obtain ⟨v, s1, sc1, tm', f', g1, g2⟩ := ih c hs h3
    have e : sc.o o = some c := (hs.o o).symm.trans h1
    exact ⟨v, s1, sc1, tm', f', ⟨c, e, h2, g1⟩, g2⟩
  | wrO o c p ih =>
    intro n tm f k s sc hs h
    obtain ⟨⟨d, h1⟩, h3⟩ := h
    obtain ⟨v, s1, sc1, tm', f', g1, g2, g3, g4, g5⟩ := ih (s := s.setO o c) (sc := sc.setO o c) (hs.setO o c) h3
    have e : sc.o o = some d := (hs.o o).symm.trans h1
    exact ⟨v, s1, sc1, tm', f', ⟨⟨d, e⟩, g1⟩, g2, g3, g4, g5⟩
  | new o c p ih =>
    intro n tm f k s sc hs h
    obtain ⟨h1, h3⟩ := h
    obtain ⟨v, s1, sc1, tm', f', g1, g2, g3, g4, g5⟩ := ih (s := s.setO o c) (sc := sc.setO o c) (hs.setO o c) h3
    have e : sc.o o = none := (hs.o o).symm.trans h1
    exact ⟨v, s1, sc1, tm', f', ⟨e, g1⟩, g2, g3, g4, g5⟩
  | br t p q ihp ihq =>
    intro n tm f k s sc hs h
    simp only [Pg.inF] at h
    split at h
    · rename_i b hb
      have e : sc.t t = .bool b := (hs.t t).symm.trans hb
      cases b with
      | true =>
        obtain ⟨v, s1, sc1, tm', f', g1, g2⟩ := ihp (tm := (t, .bool true) :: tm) (s := s) (hs.know (d := t) e) h
        exact ⟨v, s1, sc1, tm', f', ⟨true, e, g1⟩, g2⟩
      | false =>
        obtain ⟨v, s1, sc1, tm', f', g1, g2⟩ := ihq (tm := (t, .bool false) :: tm) (s := s) (hs.know (d := t) e) h
        exact ⟨v, s1, sc1, tm', f', ⟨false, e, g1⟩, g2⟩
    · exact h.elim
  | test c d p ih =>
    intro n tm f k s sc hs h
    obtain ⟨v, s1, sc1, tm', f', g1, g2⟩ := ih hs h.2
    exact ⟨v, s1, sc1, tm', f', ⟨h.1, g1⟩, g2⟩
  | bind T m g ih =>
    intro n tm f k s sc hs h
    obtain ⟨x, h1, h2⟩ := h
    obtain ⟨v, s1, sc1, tm', f', g1, g2⟩ := ih x hs h2
    exact ⟨v, s1, sc1, tm', f', ⟨x, h1, g1⟩, g2⟩
  | opt T m p g ihp ihf =>
    intro n tm f k s sc hs h
    rcases h with ⟨h1, h2⟩ | ⟨x, h1, h2⟩
    · obtain ⟨v, s1, sc1, tm', f', g1, g2⟩ := ihp hs h2
      exact ⟨v, s1, sc1, tm', f', .inl ⟨h1, g1⟩, g2⟩
    · obtain ⟨v, s1, sc1, tm', f', g1, g2⟩ := ihf x hs h2
      exact ⟨v, s1, sc1, tm', f', .inr ⟨x, h1, g1⟩, g2⟩
  | sel b p q ihp ihq =>
    intro n tm f k s sc hs h
    cases b with
    | true =>
      obtain ⟨v, s1, sc1, tm', f', g1, g2⟩ := ihp hs h
      exact ⟨v, s1, sc1, tm', f', g1, g2⟩
    | false =>
      obtain ⟨v, s1, sc1, tm', f', g1, g2⟩ := ihq hs h
      exact ⟨v, s1, sc1, tm', f', g1, g2⟩

theorem opsI_run {β : Type} {r : β} {n : Nat} {ops : List Oper} {draw : Bool} {ms : List Nat} {k : List (Nat × AV) → Pg β} : ∀ {l : List Oper} {i : Nat} {tm : List (Nat × AV)} {s sc : St} {acc : List (Nat × Ft)}, Same sc ⟨n, tm, s.ob⟩ → (∀ j o, l[j]? = some o → ops[i + j]? = some o) →
    (opsI C n ops draw ms l i tm acc k).Out s r s' →
    ∃ L sc1 s1 tm', L.map (·.1) = List.range' i l.length ∧ RunL C ops L sc sc1 ∧ Same sc1 ⟨n, tm', s1.ob⟩ ∧ s1.n = s.n ∧ s1.tm = s.tm ∧ (k tm').Out s1 r s' ∧
      (draw = true → L.Pairwise (Free ms) ∧ ∀ q ∈ acc, ∀ x ∈ L, (ms.getD x.1 0).testBit q.1 = true ∨ Ft.clash q.2 x.2 = false) := by
  intro l
  induction l with
  | nil => intro i tm s sc acc hs _ h; exact ⟨[], sc, s, tm, rfl, Same.refl _, hs, rfl, rfl, h, fun _ => ⟨List.Pairwise.nil, by simp⟩⟩
  | cons o l ih =>
    intro i tm s sc acc hs hl h
    simp only [opsI] at h
    obtain ⟨v, s1, sc1, tm1, f, hf, hss, hn1, ht1, h⟩ := inF_out hs h
    cases hc : (draw && clashAll ms i f acc) with
    | true => rw [hc] at h; exact h.elim
    | false =>
      rw [hc] at h
      simp only [cond_false] at h
      cases hp : putI n o v tm1 with
      | none => rw [hp] at h; exact h.elim
      | some tm2 =>
        rw [hp] at h
        dsimp only at h
        have hp' : ∃ sc2, putDst o v sc1 = some sc2 ∧ Same sc2 ⟨n, tm2, s1.ob⟩ := by
          unfold putI at hp
          unfold putDst
          cases hd : o.dst with
          | none => rw [hd] at hp; simp at hp; subst hp; exact ⟨sc1, rfl, hss⟩
          | some d =>
            rw [hd] at hp
            dsimp only at hp ⊢
            have hn : n = sc1.n := hss.n
            rw [hn] at hp
            cases hlt : Nat.blt d sc1.n with
            | false => simp [hlt] at hp
            | true => simp [hlt] at hp; subst hp; exact ⟨_, by simp, hss.setT d v⟩
        obtain ⟨sc2, hp', hs2⟩ := hp'
        obtain ⟨L, t1, s2, tm', g1, g2, g3, g4, g5, g6, g7⟩ := ih hs2 (fun j o' ho' => by have := hl (j + 1) o' (by simpa using ho'); rw [← this]; congr 1; omega) h
        refine ⟨(i, f) :: L, t1, s2, tm', by rw [List.map_cons, g1, List.length_cons, List.range'_succ], ⟨o, sc2, by simpa using hl 0 o rfl, ⟨v, sc1, hf, hp'⟩, g2⟩, g3, g4.trans hn1, g5.trans ht1, g6, fun hdr => ?_⟩
        obtain ⟨g7, g8⟩ := g7 hdr
        have hc : clashAll ms i f acc = false := by rw [hdr] at hc; simpa using hc
        refine ⟨List.pairwise_cons.2 ⟨fun x hx => ⟨?_, g8 (i, f) (List.mem_cons_self ..) x hx⟩, g7⟩, fun q hq x hx => ?_⟩
        · have : x.1 ∈ List.range' (i + 1) l.length := by rw [← g1]; exact List.mem_map.2 ⟨x, hx, rfl⟩
          rw [List.mem_range'_1] at this
          omega
        · rcases List.mem_cons.1 hx with rfl | hx
          · exact clashAll_spec hc q hq
          · exact g8 q (List.mem_cons_of_mem _ hq) x hx

theorem runL_list (hC : CxOK P C) {ops : Array Oper} {sf : St} {Q : Exit → Act → World → Prop} (hQ : ∀ s' a' w' ρ', Same s' sf → Rep W0 F0 ρ' s' a' w' → Q .normal a' w') :
    ∀ {l : List Oper} {i : Nat} {L : List (Nat × Ft)} {s : St} {a : Act} {w : World} {ρ : Nat → Option Loc}, (∀ j o, l[j]? = some o → ops.toList[i + j]? = some o) → L.map (·.1) = List.range' i l.length → RunL C ops.toList L s sf → Rep W0 F0 ρ s a w → wpList P ops Q l a w := by
  intro l
  induction l with
  | nil =>
    intro i L s a w ρ _ hL hrun h
    have : L = [] := by simpa using hL
    subst this
    exact hQ s a w ρ hrun.symm.symm h
  | cons o l ih =>
    intro i L s a w ρ hl hL hrun h
    cases L with
    | nil => simp at hL
    | cons q L =>
      rw [List.map_cons, List.length_cons, List.range'_succ] at hL
      simp only [List.cons.injEq] at hL
      obtain ⟨hq, hL⟩ := hL
      obtain ⟨o', s1, ho', hstep, hrest⟩ := hrun
      have e0 : ops.toList[i]? = some o := by simpa using hl 0 o rfl
      have : o' = o := by
        rw [hq, e0] at ho'; exact (Option.some.inj ho').symm
      subst this
      have := step_wp hC h (ops := ops) (Q := Q) (K := wpList P ops Q l) hstep.to fun a' w' ρ' hr => ih (i := i + 1) (fun j o2 ho2 => by have := hl (j + 1) o2 (by simpa using ho2); rw [← this]; congr 1; omega) hL hrest hr
      unfold wpList
      by_cases hw : Region.wanted o' (yielded ops a.tmps) = true
      · rw [if_pos hw] at this; simp only [hw, if_true]; exact .inl this
      · rw [if_neg hw] at this; simp only [hw]; exact this

theorem codeI_wp (hC : CxOK P C) (hm : P.follows .mixedOrders = true) {n : Nat} :
    ∀ {c : Code} {β : Type} {r : β} {tm : List (Nat × AV)} {k : Ex → List (Nat × AV) → Pg β} {s : St} {a : Act} {w : World} {ρ : Nat → Option Loc} {Q : Exit → Act → World → Prop}, (codeI C n c tm k).Out s r s' → Rep W0 F0 ρ ⟨n, tm, s.ob⟩ a w →
      (∀ e tm' s1 a' w' ρ', (k e tm').Out s1 r s' → s1.n = s.n → s1.tm = s.tm → Rep W0 F0 ρ' ⟨n, tm', s1.ob⟩ a' w' → Q e.x a' w') → c.wp P Q a w := by
  intro c
  induction c with
  | skip => intro β r tm k s a w ρ Q hk h hQ; exact wp_skip (hQ .normal tm s a w ρ hk rfl rfl h)
  | label l => intro β r tm k s a w ρ Q hk h hQ; exact wp_label (hQ .normal tm s a w ρ hk rfl rfl h)
  | region id ops draw =>
    intro β r tm k s a w ρ Q hk h hQ
    simp only [codeI] at hk
    cases hb : (draw && !edgesBack ops.toList 0) with
    | true => rw [hb] at hk; exact hk.elim
    | false =>
      rw [hb] at hk
      simp only [cond_false] at hk
      obtain ⟨L, sc1, s1, tm', g1, g2, g3, g4, g5, g6, g7⟩ := opsI_run (Same.refl ⟨n, tm, s.ob⟩) (fun j o ho => by simpa using ho) hk
      have fin : ∀ s' a' w' ρ', Same s' sc1 → Rep W0 F0 ρ' s' a' w' → Q .normal a' w' := fun s' a' w' ρ' hs hr => hQ .normal tm' s1 a' w' ρ' g6 g4 g5 (hr.same (hs.trans g3))
      cases draw with
      | false => exact wp_region_list (runL_list hC fin (fun j o ho => by simpa using ho) g1 g2 h)
      | true =>
        have he : edgesBack ops.toList 0 = true := by simpa using hb
        simp only [cond_true] at g7
        obtain ⟨g7, _⟩ := g7 trivial
        refine wp_region_any hm ?_
        have hlen : L.length = ops.size := by
          have := congrArg List.length g1
          simpa using this
        exact drawn_wp hC (ops := ops) (ms := masks ops.toList []) (sf := sc1) (Q := Q) (W0 := W0) (F0 := F0) (fun j o ho e he' hb => by have := edgesBack_spec he j o (by simpa using ho) e he' hb; omega)
          (fun j o ho => by have := masks_spec (ms := []) he j o (by simpa using ho); simpa using this)
          fin ops.size (L := L) (listed := Array.replicate ops.size false) (s := ⟨n, tm, s.ob⟩) (a := a) (w := { w with drawn := w.drawn + 1 }) (ρ := ρ) hlen (by simp)
          (fun j => by
            rw [g1, List.mem_range'_1]
            by_cases hj : j < ops.size
            · simp [Array.getD, hj]
            · simp [Array.getD, hj])
          g7
          (fun j hj => by
            exfalso
            by_cases hlt : j < ops.size
            · simp [Array.getD, hlt] at hj
            · simp [Array.getD, hlt] at hj)
          g2 h.drew
  | seq x y ihx ihy =>
    intro β r tm k s a w ρ Q hk h hQ
    refine wp_seq (ihx hk h fun e tm' s1 a' w' ρ' hk' hn ht hr => ?_)
    cases e with
    | normal => exact ihy hk' hr fun e2 tm2 s2 a2 w2 ρ2 hk2 hn2 ht2 hr2 => hQ e2 tm2 s2 a2 w2 ρ2 hk2 (hn2.trans hn) (ht2.trans ht) hr2
    | ret => exact hQ .ret tm' s1 a' w' ρ' hk' hn ht hr
    | exit i => exact hQ (.exit i) tm' s1 a' w' ρ' hk' hn ht hr
  | cond c x y ihx ihy =>
    intro β r tm k s a w ρ Q hk h hQ
    simp only [codeI] at hk
    split at hk
    · rename_i t
      split at hk
      · rename_i b hb
        have ht := h.tm t
        have e : St.t ⟨n, tm, s.ob⟩ t = .bool b := hb
        rw [e] at ht
        refine wp_cond (t := b) ht.bool_eq ?_
        cases b with
        | true => exact ihx (s := s) hk (h.know ht) hQ
        | false => exact ihy (s := s) hk (h.know ht) hQ
      · exact hk.elim
    · rename_i b
      refine wp_cond (t := b) rfl ?_
      cases b with
      | true => exact ihx (s := s) hk h hQ
      | false => exact ihy (s := s) hk h hQ
    · exact hk.elim
  | block id c ih =>
    intro β r tm k s a w ρ Q hk h hQ
    refine wp_block (ih hk h fun e tm' s1 a' w' ρ' hk' hn ht hr => ?_)
    cases e with
    | normal => exact hQ .normal tm' s1 a' w' ρ' hk' hn ht hr
    | ret => exact hQ .ret tm' s1 a' w' ρ' hk' hn ht hr
    | exit j =>
      show if j = id then _ else _
      dsimp only at hk'
      by_cases e : j = id
      · subst e
        simp at hk'
        rw [if_pos rfl]
        exact hQ .normal tm' s1 a' w' ρ' hk' hn ht hr
      · have : Nat.beq j id = false := by rw [Bool.eq_false_iff]; intro e'; exact e (Nat.eq_of_beq_eq_true e')
        simp only [this, cond_false] at hk'
        rw [if_neg e]
        exact hQ (.exit j) tm' s1 a' w' ρ' hk' hn ht hr
  | scope c ih =>
    intro β r tm k s a w ρ Q hk h hQ
    refine wp_scope_straight (ih hk h fun e tm' s1 a' w' ρ' hk' hn ht hr => ?_)
    cases e with
    | normal => exact hQ .normal tm' s1 a' w' ρ' hk' hn ht hr
    | ret => exact hQ .ret tm' s1 a' w' ρ' hk' hn ht hr
    | exit j => exact hQ (.exit j) tm' s1 a' w' ρ' hk' hn ht hr
  | exit id => intro β r tm k s a w ρ Q hk h hQ; exact wp_exit (hQ (.exit id) tm s a w ρ hk rfl rfl h)
  | ret => intro β r tm k s a w ρ Q hk h hQ; exact wp_ret (hQ .ret tm s a w ρ hk rfl rfl h)
  | _ => intro β r tm k s a w ρ Q hk h hQ; exact hk.elim

theorem setArgs_vals {E : Env} : ∀ {vs : List AV} {us : List Value}, Vals E vs us → ∀ (i t : Nat), look (setArgs (listAV vs) i) t = .top ∨ ∃ j u, t = i + j ∧ us[j]? = some u ∧ Val E (look (setArgs (listAV vs) i) t) u := by
  intro vs
  induction vs with
  | nil => intro us k i t; exact .inl rfl
  | cons v vs ih =>
    intro us k i t
    obtain ⟨u, r', rfl, h1, h2⟩ := k
    simp only [listAV, setArgs]
    rw [look_cons]
    by_cases e : i = t
    · subst e; rw [if_pos rfl]; exact .inr ⟨0, u, rfl, rfl, h1⟩
    · rw [if_neg e]
      rcases ih h2 (i + 1) t with h | ⟨j, u', e1, e2, e3⟩
      · exact .inl h
      · exact .inr ⟨j + 1, u', by omega, by simpa using e2, e3⟩
theorem vals_len {E : Env} : ∀ {vs : List AV} {us : List Value}, Vals E vs us → us.length = vs.length := by
  intro vs
  induction vs with
  | nil => intro us k; have k : us = [] := k; rw [k]; rfl
  | cons v vs ih => intro us k; obtain ⟨u, r', rfl, h1, h2⟩ := k; simp [ih h2]
theorem vals_res {E : Env} {vs : List AV} {us : List Value} (h : Vals E vs us) (hn : noTup vs = true) : Val E (resAV (listAV vs)) (retV us) := by
  have key : ∀ {vs : List AV} {us : List Value}, Vals E vs us → noTup vs = true → ValT E (listAV vs) us := by
    intro vs
    induction vs with
    | nil => intro us k _; exact k
    | cons v vs ih =>
      intro us k hn
      obtain ⟨u, r, rfl, h1, h2⟩ := k
      have h3 : noTup vs = true ∧ ∀ c, v ≠ .tup c := by
        cases v <;> simp [noTup] at hn ⊢ <;> exact hn
      refine ⟨u, r, rfl, ?_, ih h2 h3.1⟩
      rcases h1 with h1 | ⟨c, us, e, _⟩
      · exact h1
      · exact absurd e (h3.2 c)
  exact val_res (key h hn)

theorem CxOK.base (hC : CxOK P C) (n : Nat) : CxOK P { C with b := n } := ⟨hC.D, hC.Ds, hC.G, hC.I, hC.M⟩

/-- a body evaluated where it is called -/
theorem inlines (hC : CxOK P C) (hm : P.follows .mixedOrders = true) {f : FuncId} {fn : Func} {c : Code} (hf : P.funcs[f]? = some fn) (hb : fn.body = some c) (hname : (fn.name == "runtime.NumGoroutine") = false)   : Inlines P f (inlPg C fn c) := by
  constructor
  intro W0 F0 ρ s s' a w o vs us nx v h hex hvs ho next Q hnext
  unfold inlPg at ho
  obtain ⟨hlen, ho⟩ := out_bif' ho
  have hlen : vs.length ≤ fn.ntmps := Nat.le_of_ble_eq_true hlen
  have hul := vals_len hvs
  unfold Oper.wp
  rw [hex, run_callFunc_body hf (by rw [hb]; rfl) hname]
  refine calls_of_wp hf hb ?_
  let F1 : Base := ⟨F0.F, F0.fx ++ s.tm.map fun q => (s.t q.1, a.tmps.getD q.1 undef)⟩
  have hrep : Rep W0 F1 ρ ⟨fn.ntmps, setArgs (listAV vs) 0, s.ob⟩ { tmps := us.toArray ++ Array.replicate (fn.ntmps - us.toArray.size) undef, defers := [] } w := by
    refine ⟨?_, rfl, fun t => ?_, h.ob, h.inj, h.own, h.fr, fun p hp => ?_⟩
    · show (us.toArray ++ Array.replicate (fn.ntmps - us.toArray.size) undef).size = fn.ntmps
      simp; omega
    · show Val ⟨w, s.o, ρ⟩ (look (setArgs (listAV vs) 0) t) _
      rcases setArgs_vals hvs 0 t with e | ⟨j, u, e1, e2, e3⟩
      · rw [e]; exact Val.top _
      · have hj : j < us.length := (List.getElem?_eq_some_iff.1 e2).1
        have : (us.toArray ++ Array.replicate (fn.ntmps - us.toArray.size) undef).getD t undef = u := by
          subst e1
          have e2' := (List.getElem?_eq_some_iff.1 e2).2
          rw [Array.getD_eq_getD_getElem?, Array.getElem?_append_left (by simpa using (by omega : 0 + j < us.length))]
          simp [hj, e2']
        rw [this]; exact e3
    · rcases List.mem_append.1 hp with hp | hp
      · exact h.fx p hp
      · obtain ⟨q, _, rfl⟩ := List.mem_map.1 hp
        exact h.tm q.1
  refine codeI_wp (hC.base nx) hm ho hrep fun e tm' s1 a' w' ρ' hk hn ht hr => ?_
  have fin' : (retI { C with b := nx } fn tm').Out s1 v s' → a'.defers = [] ∧ ∃ u, (results fn a'.tmps).run P w' = .ok u w' ∧ next (a.put o.dst u) w' := by
    intro hk
    unfold retI at hk
    obtain ⟨v0, s2, sc1, tm2, f2, g1, g2, g3, g4, g5⟩ := inF_out (Same.refl ⟨fn.ntmps, tm', s1.ob⟩) hk
    obtain ⟨rfl, rfl⟩ := g5
    obtain ⟨rvs, rus, k1, k2, k3⟩ := resVals_out (hC.base nx).D hr (foot_out g1)
    obtain ⟨hnt, k1⟩ := out_bif' k1
    obtain ⟨rfl, rfl⟩ := k1
    have hso : s'.o = St.o ⟨fn.ntmps, tm', s1.ob⟩ := funext fun x => g2.o x
    refine ⟨hr.defers, _, results_run k3, hnext _ w' ρ' ⟨by rw [g3, hn]; exact h.size, h.defers, fun t => ?_, ?_, ?_, ?_, hr.fr, fun p hp => ?_⟩ ?_⟩
    · have e1 : s'.t t = s.t t := by show look s'.tm t = look s.tm t; rw [g4, ht]
      rw [hso, e1]
      rcases look_mem (l := s.tm) (i := t) with e | e
      · have e : s.t t = .top := e
        rw [e]; exact Val.top _
      · exact hr.fx (s.t t, a.tmps.getD t undef) (List.mem_append_right _ (List.mem_map.2 ⟨_, e, rfl⟩))
    · rw [hso]; exact hr.ob
    · rw [hso]; exact hr.inj
    · rw [hso]; exact hr.own
    · rw [hso]; exact hr.fx p (List.mem_append_left _ hp)
    · rw [hso]; exact vals_res k2 hnt
  cases e with
  | normal => exact fin' hk
  | ret => exact fin' hk
  | exit i => exact hk.elim

def IOk (P : Program) : List (Nat × (List AV → Nat → Pg AV)) → Prop
  | [] => True
  | (i, p) :: r => Inlines P i p ∧ IOk P r
theorem mkI_ok : ∀ {l : List (Nat × (List AV → Nat → Pg AV))}, IOk P l → ∀ f p, mkI l f = some p → Inlines P f p := by
  intro l
  induction l with
  | nil => intro _ f g h; simp [mkI] at h
  | cons x l ih =>
    obtain ⟨i, t⟩ := x
    intro h f g hg
    simp only [mkI] at hg
    cases hb : Nat.beq i f with
    | true =>
      simp only [hb, cond_true, Option.some.injEq] at hg
      have e := Nat.eq_of_beq_eq_true hb
      subst e; subst hg
      exact h.1
    | false => simp only [hb, cond_false] at hg; exact ih h.2 f g hg
def MOk (P : Program) : List (Nat × String × Nat) → Prop
  | [] => True
  | q :: r => (∀ (v : Value) (w : World), (method (P.types.size + Made.depth) q.1 v q.2.1).run P w = .ok (q.2.2, v) w) ∧ MOk P r
theorem mkM_ok : ∀ {l : List (Nat × String × Nat)}, MOk P l → ∀ T n f, mkM l T n = some f → ∀ (v : Value) (w : World), (method (P.types.size + Made.depth) T v n).run P w = .ok (f, v) w := by
  intro l
  induction l with
  | nil => intro _ T n f h; simp [mkM] at h
  | cons x l ih =>
    obtain ⟨i, m, g⟩ := x
    intro h T n f hf
    simp only [mkM] at hf
    cases hb : (Nat.beq i T && decide (m = n)) with
    | true =>
      simp only [hb, cond_true, Option.some.injEq] at hf
      simp only [Bool.and_eq_true, decide_eq_true_eq] at hb
      have e := Nat.eq_of_beq_eq_true hb.1
      subst e; subst hf
      rw [← hb.2]
      exact h.1
    | false => simp only [hb, cond_false] at hf; exact ih h.2 T n f hf
/-- a function's context -/
def mkC (l : List (Nat × TI)) (gs : List (Nat × Sig)) (is : List (Nat × (List AV → Nat → Pg AV))) (mt : List (Nat × String × Nat)) (n : Nat) : Cx := ⟨mkD l, mkG gs, mkI is, mkM mt, 0, n⟩
theorem mkC_ok {l : List (Nat × TI)} {gs : List (Nat × Sig)} {is : List (Nat × (List AV → Nat → Pg AV))} {mt : List (Nat × String × Nat)} (h1 : tisB P l = true) (h2 : elemB (mkD l) l = true) (h3 : GOk P gs) (h4 : IOk P is) (h5 : MOk P mt) (n : Nat) : CxOK P (mkC l gs is mt n) :=
  ⟨fun T => mkD_ok (tisB_spec h1) T, fun T e h => elemB_spec h2 T e h, mkG_ok h3, mkI_ok h4, mkM_ok h5⟩
end
end Go.Ev
