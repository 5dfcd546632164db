/- Regions whose order is drawn: operations that do not meet may change places. -/
import Derived.Test.YtfdgkmligadcnaaEv22
set_option linter.unusedVariables false
set_option linter.unusedSimpArgs false
namespace Go.Ev
open Go

/-- what a program of reads and writes comes to, with its footprint -/
def Pg.Foot {α : Type} (s : St) : Pg α → α → St → Ft → Ft → Prop
  | .ret v, u, s', f, f' => u = v ∧ s' = s ∧ f' = f
  | .fail, _, _, _, _ => False
  | .rdT t g, u, s', f, f' => (g (s.t t)).Foot s u s' { f with rt := t :: f.rt } f'
  | .rdO o g, u, s', f, f' => ∃ c, s.o o = some c ∧ c.dead = false ∧ (g c).Foot s u s' { f with ro := o :: f.ro } f'
  | .wrO o c p, u, s', f, f' => (∃ d, s.o o = some d) ∧ p.Foot (s.setO o c) u s' { f with wo := o :: f.wo } f'
  | .new o c p, u, s', f, f' => s.o o = none ∧ p.Foot (s.setO o c) u s' { f with wo := o :: f.wo } f'
  | .br t p q, u, s', f, f' => ∃ b, s.t t = .bool b ∧ (if b then p.Foot s u s' { f with rt := t :: f.rt } f' else q.Foot s u s' { f with rt := t :: f.rt } f')
  | .test c d p, u, s', f, f' => c ∧ p.Foot s u s' f f'
  | .bind _ m g, u, s', f, f' => ∃ r, m = some r ∧ (g r).Foot s u s' f f'
  | .opt _ m p g, u, s', f, f' => (m = none ∧ p.Foot s u s' f f') ∨ ∃ r, m = some r ∧ (g r).Foot s u s' f f'

theorem runF_foot {α R : Type} {r : R} : ∀ {p : Pg α} {s s0 : St} {f : Ft} {k : α → St → Ft → Option R}, Same s0 s → p.runF s f k = some r → ∃ v s1 s1' f', p.Foot s0 v s1 f f' ∧ Same s1 s1' ∧ k v s1' f' = some r := by
  intro p
  induction p with
  | ret v => intro s s0 f k hs h; exact ⟨v, s0, s, f, ⟨rfl, rfl, rfl⟩, hs, h⟩
  | fail => intro s s0 f k hs h; simp [Pg.runF] at h
  | rdT t g ih => intro s s0 f k hs h; simp only [Pg.runF] at h; rw [hs.t t] at h; exact ih _ hs h
  | rdO o g ih =>
    intro s s0 f k hs h
    simp only [Pg.runF] at h
    rw [hs.o o] at h
    cases hc : s0.o o with
    | none => rw [hc] at h; simp at h
    | some c =>
      rw [hc] at h
      cases hd : c.dead with
      | true => simp [hd] at h
      | false =>
        simp only [hd, cond_false] at h
        obtain ⟨v, s1, s1', f', h1, h2, h3⟩ := ih c hs h
        exact ⟨v, s1, s1', f', ⟨c, hc, hd, h1⟩, h2, h3⟩
  | wrO o c p ih =>
    intro s s0 f k hs h
    simp only [Pg.runF] at h
    rw [hs.o o] at h
    cases hc : s0.o o with
    | none => rw [hc] at h; simp at h
    | some d =>
      rw [hc] at h
      obtain ⟨v, s1, s1', f', h1, h2, h3⟩ := ih (hs.setO o c) h
      exact ⟨v, s1, s1', f', ⟨⟨d, hc⟩, h1⟩, h2, h3⟩
  | new o c p ih =>
    intro s s0 f k hs h
    simp only [Pg.runF] at h
    rw [hs.o o] at h
    cases hc : s0.o o with
    | some d => rw [hc] at h; simp at h
    | none =>
      rw [hc] at h
      obtain ⟨v, s1, s1', f', h1, h2, h3⟩ := ih (hs.setO o c) h
      exact ⟨v, s1, s1', f', ⟨hc, h1⟩, h2, h3⟩
  | br t p q ihp ihq =>
    intro s s0 f k hs h
    simp only [Pg.runF] at h
    split at h
    · rename_i b hb
      rw [hs.t t] at hb
      cases b with
      | true =>
        obtain ⟨v, s1, s1', f', h1, h2, h3⟩ := ihp (hs.know hb) h
        exact ⟨v, s1, s1', f', ⟨true, hb, h1⟩, h2, h3⟩
      | false =>
        obtain ⟨v, s1, s1', f', h1, h2, h3⟩ := ihq (hs.know hb) h
        exact ⟨v, s1, s1', f', ⟨false, hb, h1⟩, h2, h3⟩
    · simp at h
  | test c d p ih =>
    intro s s0 f k hs h
    simp only [Pg.runF] at h
    by_cases hc : c
    · rw [if_pos hc] at h
      obtain ⟨v, s1, s1', f', h1, h2, h3⟩ := ih hs h
      exact ⟨v, s1, s1', f', ⟨hc, h1⟩, h2, h3⟩
    · rw [if_neg hc] at h; simp at h
  | bind T m g ih =>
    intro s s0 f k hs h
    simp only [Pg.runF] at h
    cases m with
    | none => simp at h
    | some x =>
      obtain ⟨v, s1, s1', f', h1, h2, h3⟩ := ih x hs h
      exact ⟨v, s1, s1', f', ⟨x, rfl, h1⟩, h2, h3⟩
  | opt T m p g ihp ihf =>
    intro s s0 f k hs h
    cases m with
    | none =>
      have h : p.runF s f k = some r := h
      obtain ⟨v, s1, s1', f', h1, h2, h3⟩ := ihp hs h
      exact ⟨v, s1, s1', f', .inl ⟨rfl, h1⟩, h2, h3⟩
    | some x =>
      have h : (g x).runF s f k = some r := h
      obtain ⟨v, s1, s1', f', h1, h2, h3⟩ := ihf x hs h
      exact ⟨v, s1, s1', f', .inr ⟨x, rfl, h1⟩, h2, h3⟩

theorem foot_out {α : Type} : ∀ {p : Pg α} {s : St} {v : α} {s' : St} {f f' : Ft}, p.Foot s v s' f f' → p.Out s v s' := by
  intro p
  induction p with
  | ret v => intro s v s' f f' h; exact ⟨h.1, h.2.1⟩
  | fail => intro s v s' f f' h; exact h
  | rdT t g ih => intro s v s' f f' h; exact ih _ h
  | rdO o g ih => intro s v s' f f' h; obtain ⟨c, h1, h2, h3⟩ := h; exact ⟨c, h1, h2, ih c h3⟩
  | wrO o c p ih => intro s v s' f f' h; exact ⟨h.1, ih h.2⟩
  | new o c p ih => intro s v s' f f' h; exact ⟨h.1, ih h.2⟩
  | br t p q ihp ihq =>
    intro s v s' f f' h
    obtain ⟨b, hb, h⟩ := h
    refine ⟨b, hb, ?_⟩
    cases b with
    | true => exact ihp h
    | false => exact ihq h
  | test c d p ih => intro s v s' f f' h; exact ⟨h.1, ih h.2⟩
  | bind T m g ih => intro s v s' f f' h; obtain ⟨x, h1, h2⟩ := h; exact ⟨x, h1, ih x h2⟩
  | opt T m p g ihp ihf =>
    intro s v s' f f' h
    rcases h with ⟨h1, h2⟩ | ⟨x, h1, h2⟩
    · exact .inl ⟨h1, ihp h2⟩
    · exact .inr ⟨x, h1, ihf x h2⟩

structure Grows (f f' : Ft) : Prop where
  rt : ∀ x, x ∈ f.rt → x ∈ f'.rt
  ro : ∀ x, x ∈ f.ro → x ∈ f'.ro
  wo : ∀ x, x ∈ f.wo → x ∈ f'.wo
  wt : f'.wt = f.wt
theorem Grows.refl (f : Ft) : Grows f f := ⟨fun _ h => h, fun _ h => h, fun _ h => h, rfl⟩

theorem foot_grows {α : Type} : ∀ {p : Pg α} {s : St} {v : α} {s' : St} {f f' : Ft}, p.Foot s v s' f f' → Grows f f' := by
  intro p
  induction p with
  | ret v => intro s v s' f f' h; rw [h.2.2]; exact Grows.refl f
  | fail => intro s v s' f f' h; exact h.elim
  | rdT t g ih => intro s v s' f f' h; have := ih _ h; exact ⟨fun x hx => this.rt x (List.mem_cons_of_mem _ hx), this.ro, this.wo, this.wt⟩
  | rdO o g ih => intro s v s' f f' h; obtain ⟨c, h1, h2, h3⟩ := h; have := ih c h3; exact ⟨this.rt, fun x hx => this.ro x (List.mem_cons_of_mem _ hx), this.wo, this.wt⟩
  | wrO o c p ih => intro s v s' f f' h; have := ih h.2; exact ⟨this.rt, this.ro, fun x hx => this.wo x (List.mem_cons_of_mem _ hx), this.wt⟩
  | new o c p ih => intro s v s' f f' h; have := ih h.2; exact ⟨this.rt, this.ro, fun x hx => this.wo x (List.mem_cons_of_mem _ hx), this.wt⟩
  | br t p q ihp ihq =>
    intro s v s' f f' h
    obtain ⟨b, hb, h⟩ := h
    cases b with
    | true => have := ihp h; exact ⟨fun x hx => this.rt x (List.mem_cons_of_mem _ hx), this.ro, this.wo, this.wt⟩
    | false => have := ihq h; exact ⟨fun x hx => this.rt x (List.mem_cons_of_mem _ hx), this.ro, this.wo, this.wt⟩
  | test c d p ih => intro s v s' f f' h; exact ih h.2
  | bind T m g ih => intro s v s' f f' h; obtain ⟨x, h1, h2⟩ := h; exact ih x h2
  | opt T m p g ihp ihf =>
    intro s v s' f f' h
    rcases h with ⟨h1, h2⟩ | ⟨x, h1, h2⟩
    · exact ihp h2
    · exact ihf x h2

/-- two states that agree where a footprint looks -/
structure Agree (f : Ft) (s t : St) : Prop where
  rt : ∀ x, x ∈ f.rt → s.t x = t.t x
  ro : ∀ x, x ∈ f.ro → s.o x = t.o x
  wo : ∀ x, x ∈ f.wo → s.o x = t.o x

theorem Agree.setO {f : Ft} {s t : St} (h : Agree f s t) (o : Nat) (c : AV) : Agree f (s.setO o c) (t.setO o c) :=
  ⟨h.rt, fun x hx => by rw [St.setO_o, St.setO_o]; split; rfl; exact h.ro x hx, fun x hx => by rw [St.setO_o, St.setO_o]; split; rfl; exact h.wo x hx⟩

theorem foot_local {α : Type} : ∀ {p : Pg α} {s t : St} {v : α} {s' : St} {f f' : Ft}, p.Foot s v s' f f' → Agree f' s t →
    ∃ t', p.Foot t v t' f f' ∧ t'.n = t.n ∧ (∀ x, t'.t x = t.t x) ∧ Agree f' s' t' ∧ ∀ o, o ∉ f'.wo → t'.o o = t.o o := by
  intro p
  induction p with
  | ret v => intro s t v s' f f' h hA; obtain ⟨rfl, rfl, rfl⟩ := h; exact ⟨t, ⟨rfl, rfl, rfl⟩, rfl, fun _ => rfl, hA, fun _ _ => rfl⟩
  | fail => intro s t v s' f f' h hA; exact h.elim
  | rdT x g ih =>
    intro s t v s' f f' h hA
    have h : (g (s.t x)).Foot s v s' _ f' := h
    rw [hA.rt x ((foot_grows h).rt x (List.mem_cons_self ..))] at h
    obtain ⟨t', h1, h2⟩ := ih _ h hA
    exact ⟨t', h1, h2⟩
  | rdO o g ih =>
    intro s t v s' f f' h hA
    obtain ⟨c, h1, h2, h3⟩ := h
    obtain ⟨t', g1, g2⟩ := ih c h3 hA
    exact ⟨t', ⟨c, by rw [← hA.ro o ((foot_grows h3).ro o (List.mem_cons_self ..))]; exact h1, h2, g1⟩, g2⟩
  | wrO o c p ih =>
    intro s t v s' f f' h hA
    obtain ⟨⟨d, h1⟩, h3⟩ := h
    have hm := (foot_grows h3).wo o (List.mem_cons_self ..)
    obtain ⟨t', g1, g2, g3, g4, g5⟩ := ih h3 (hA.setO o c)
    refine ⟨t', ⟨⟨d, by rw [← hA.wo o hm]; exact h1⟩, g1⟩, g2, g3, g4, fun x hx => ?_⟩
    rw [g5 x hx, St.setO_o, if_neg (fun e : o = x => hx (e ▸ hm))]
  | new o c p ih =>
    intro s t v s' f f' h hA
    obtain ⟨h1, h3⟩ := h
    have hm := (foot_grows h3).wo o (List.mem_cons_self ..)
    obtain ⟨t', g1, g2, g3, g4, g5⟩ := ih h3 (hA.setO o c)
    refine ⟨t', ⟨by rw [← hA.wo o hm]; exact h1, g1⟩, g2, g3, g4, fun x hx => ?_⟩
    rw [g5 x hx, St.setO_o, if_neg (fun e : o = x => hx (e ▸ hm))]
  | br x p q ihp ihq =>
    intro s t v s' f f' h hA
    obtain ⟨b, hb, h⟩ := h
    cases b with
    | true =>
      have h : p.Foot s v s' _ f' := h
      obtain ⟨t', g1, g2⟩ := ihp h hA
      exact ⟨t', ⟨true, by rw [← hA.rt x ((foot_grows h).rt x (List.mem_cons_self ..))]; exact hb, g1⟩, g2⟩
    | false =>
      have h : q.Foot s v s' _ f' := h
      obtain ⟨t', g1, g2⟩ := ihq h hA
      exact ⟨t', ⟨false, by rw [← hA.rt x ((foot_grows h).rt x (List.mem_cons_self ..))]; exact hb, g1⟩, g2⟩
  | test c d p ih => intro s t v s' f f' h hA; obtain ⟨t', g1, g2⟩ := ih h.2 hA; exact ⟨t', ⟨h.1, g1⟩, g2⟩
  | bind T m g ih => intro s t v s' f f' h hA; obtain ⟨x, h1, h2⟩ := h; obtain ⟨t', g1, g2⟩ := ih x h2 hA; exact ⟨t', ⟨x, h1, g1⟩, g2⟩
  | opt T m p g ihp ihf =>
    intro s t v s' f f' h hA
    rcases h with ⟨h1, h2⟩ | ⟨x, h1, h2⟩
    · obtain ⟨t', g1, g2⟩ := ihp h2 hA; exact ⟨t', .inl ⟨h1, g1⟩, g2⟩
    · obtain ⟨t', g1, g2⟩ := ihf x h2 hA; exact ⟨t', .inr ⟨x, h1, g1⟩, g2⟩

/-- one operation with its footprint -/
def StepF (C : Cx) (ops : List Oper) (o : Oper) (s s2 : St) (f : Ft) : Prop := ∃ v s1, (guardPg ops o (opPg C o)).Foot s v s1 ⟨[], [], o.dst.toList, []⟩ f ∧ putDst o v s1 = some s2

section
variable {C : Cx} {ops : List Oper} {o p : Oper} {s s1 s2 t : St} {f g : Ft}

theorem StepF.to (h : StepF C ops o s s2 f) : StepTo C ops o s s2 := by
  obtain ⟨v, s1, h1, h2⟩ := h
  exact ⟨v, s1, foot_out h1, h2⟩

/-- the operation from another state -/
theorem StepF.move (h : StepF C ops o s s2 f) (hA : Agree f s t) (hn : t.n = s.n) :
    ∃ t2, StepF C ops o t t2 f ∧ t2.n = t.n ∧ s2.n = s.n ∧ (∀ x, x ∈ f.wt → t2.t x = s2.t x) ∧ (∀ x, x ∉ f.wt → t2.t x = t.t x) ∧ (∀ x, x ∈ f.wo → t2.o x = s2.o x) ∧ (∀ x, x ∉ f.wo → t2.o x = t.o x) ∧
      (∀ x, x ∉ f.wt → s2.t x = s.t x) ∧ (∀ x, x ∉ f.wo → s2.o x = s.o x) := by
  obtain ⟨v, s1, h1, h2⟩ := h
  obtain ⟨t', g1, g2, g3, g4, g5⟩ := foot_local h1 hA
  obtain ⟨q, k1, k2, k3, k4, k5⟩ := foot_local h1 (⟨fun _ _ => rfl, fun _ _ => rfl, fun _ _ => rfl⟩ : Agree f s s)
  have hdet : s1.n = s.n ∧ (∀ x, s1.t x = s.t x) ∧ ∀ x, x ∉ f.wo → s1.o x = s.o x := by
    have : ∀ {α : Type} {p : Pg α} {s : St} {v : α} {s' : St} {f f' : Ft}, p.Foot s v s' f f' → s'.n = s.n ∧ (∀ x, s'.t x = s.t x) ∧ ∀ x, x ∉ f'.wo → s'.o x = s.o x := by
      intro α p
      induction p with
      | ret v => intro s v s' f f' h; obtain ⟨_, rfl, _⟩ := h; exact ⟨rfl, fun _ => rfl, fun _ _ => rfl⟩
      | fail => intro s v s' f f' h; exact h.elim
      | rdT t g ih => intro s v s' f f' h; exact ih _ h
      | rdO o g ih => intro s v s' f f' h; obtain ⟨c, h1, h2, h3⟩ := h; exact ih c h3
      | wrO o c p ih =>
        intro s v s' f f' h
        obtain ⟨a1, a2, a3⟩ := ih h.2
        exact ⟨a1, a2, fun x hx => by rw [a3 x hx, St.setO_o, if_neg (fun e : o = x => hx (e ▸ (foot_grows h.2).wo o (List.mem_cons_self ..)))]⟩
      | new o c p ih =>
        intro s v s' f f' h
        obtain ⟨a1, a2, a3⟩ := ih h.2
        exact ⟨a1, a2, fun x hx => by rw [a3 x hx, St.setO_o, if_neg (fun e : o = x => hx (e ▸ (foot_grows h.2).wo o (List.mem_cons_self ..)))]⟩
      | br t p q ihp ihq =>
        intro s v s' f f' h
        obtain ⟨b, hb, h⟩ := h
        cases b with
        | true => exact ihp h
        | false => exact ihq h
      | test c d p ih => intro s v s' f f' h; exact ih h.2
      | bind T m g ih => intro s v s' f f' h; obtain ⟨x, h1, h2⟩ := h; exact ih x h2
      | opt T m p g ihp ihf =>
        intro s v s' f f' h
        rcases h with ⟨h1, h2⟩ | ⟨x, h1, h2⟩
        · exact ihp h2
        · exact ihf x h2
    exact this h1
  obtain ⟨d1, d2, d3⟩ := hdet
  have hwt : f.wt = o.dst.toList := (foot_grows h1).wt
  unfold putDst at h2
  cases hd : o.dst with
  | none =>
    rw [hd] at h2 hwt
    simp at h2; subst h2
    have hno : ∀ x, x ∉ f.wt := by intro x hx; rw [hwt] at hx; simp at hx
    exact ⟨t', ⟨v, t', by rw [hd] at g1 ⊢; exact g1, by simp [putDst, hd]⟩, g2, d1, fun x hx => absurd hx (hno x), fun x _ => g3 x, fun x hx => (g4.wo x hx).symm, g5, fun x _ => d2 x, d3⟩
  | some d =>
    rw [hd] at h2 hwt
    dsimp only at h2
    cases hlt : Nat.blt d s1.n with
    | false => simp [hlt] at h2
    | true =>
      simp [hlt] at h2
      subst h2
      have hm : ∀ x, x ∈ f.wt ↔ x = d := by intro x; rw [hwt]; simp
      refine ⟨t'.setT d v, ⟨v, t', g1, by simp [putDst, hd, g2, hn, ← d1, hlt]⟩, g2, d1, fun x hx => ?_, fun x hx => ?_, fun x hx => (g4.wo x hx).symm, g5, fun x hx => ?_, d3⟩
      · rw [St.setT_t, St.setT_t, if_pos ((hm x).1 hx).symm, if_pos ((hm x).1 hx).symm]
      · rw [St.setT_t, if_neg (fun e => hx ((hm x).2 e.symm))]; exact g3 x
      · rw [St.setT_t, if_neg (fun e => hx ((hm x).2 e.symm))]; exact d2 x

theorem meetN_false {l m : List Nat} (h : meetN l m = false) : ∀ x, x ∈ l → x ∉ m := by
  induction l with
  | nil => intro x hx; simp at hx
  | cons i l ih =>
    intro x hx
    simp only [meetN, Bool.or_eq_false_iff] at h
    rcases List.mem_cons.1 hx with rfl | hx
    · exact memN_false.1 h.1
    · exact ih h.2 x hx

/-- two operations that do not meet change places -/
theorem StepF.swap (h : StepF C ops o s s1 f) (k : StepF C ops p s1 s2 g) (hc : Ft.clash f g = false) : ∃ t1 t2, StepF C ops p s t1 g ∧ StepF C ops o t1 t2 f ∧ Same s2 t2 := by
  simp only [Ft.clash, Bool.or_eq_false_iff] at hc
  obtain ⟨⟨⟨⟨⟨c1, c2⟩, c3⟩, c4⟩, c5⟩, c6⟩ := hc
  obtain ⟨_, _, _, n1, _, _, _, _, a1, a2⟩ := h.move (⟨fun _ _ => rfl, fun _ _ => rfl, fun _ _ => rfl⟩ : Agree f s s) rfl
  have c1 := meetN_false c1
  have c2 := meetN_false c2
  have c3 := meetN_false c3
  have c4 := meetN_false c4
  have c5 := meetN_false c5
  have c6 := meetN_false c6
  obtain ⟨t1, e1, e2, e3, e4, e5, e6, e7, e8, e9⟩ := k.move (t := s) ⟨fun x hx => a1 x (fun hx' => c1 x hx' hx), fun x hx => a2 x (fun hx' => c4 x hx' hx), fun x hx => a2 x (fun hx' => c5 x hx' hx)⟩ n1.symm
  obtain ⟨t2, f1, f2, f3, f4, f5, f6, f7, f8, f9⟩ := h.move (t := t1) ⟨fun x hx => (e5 x (fun hx' => c3 x hx hx')).symm, fun x hx => (e7 x (fun hx' => c6 x hx hx')).symm, fun x hx => (e7 x (fun hx' => c5 x hx hx')).symm⟩ e2
  refine ⟨t1, t2, e1, f1, ⟨by rw [f2, e2, e3, n1], fun x => ?_, fun x => ?_⟩⟩
  · by_cases hx : x ∈ f.wt
    · rw [f4 x hx, e8 x (c2 x hx)]
    · rw [f5 x hx]
      by_cases hy : x ∈ g.wt
      · rw [e4 x hy]
      · rw [e5 x hy, e8 x hy, f8 x hx]
  · by_cases hx : x ∈ f.wo
    · rw [f6 x hx, e9 x (c5 x hx)]
    · rw [f7 x hx]
      by_cases hy : x ∈ g.wo
      · rw [e6 x hy]
      · rw [e7 x hy, e9 x hy, f9 x hx]

/-- a run of operations, each with its footprint -/
def RunL (C : Cx) (ops : List Oper) : List (Nat × Ft) → St → St → Prop
  | [], s, s' => Same s s'
  | q :: r, s, s' => ∃ o s1, ops[q.1]? = some o ∧ StepF C ops o s s1 q.2 ∧ RunL C ops r s1 s'

theorem RunL.same : ∀ {l : List (Nat × Ft)} {s s' t : St}, RunL C ops l s s' → Same s t → RunL C ops l t s' := by
  intro l
  induction l with
  | nil => intro s s' t h hs; exact hs.symm.trans h
  | cons q r ih =>
    intro s s' t h hs
    obtain ⟨o, s1, h1, h2, h3⟩ := h
    obtain ⟨t2, e1, e2, e3, e4, e5, e6, e7, e8, e9⟩ := h2.move (t := t) ⟨fun x _ => (hs.t x).symm, fun x _ => (hs.o x).symm, fun x _ => (hs.o x).symm⟩ hs.n
    refine ⟨o, t2, h1, e1, ih h3 ⟨by rw [e2, hs.n, e3], fun x => ?_, fun x => ?_⟩⟩
    · by_cases hx : x ∈ q.2.wt
      · exact e4 x hx
      · rw [e5 x hx, e8 x hx, hs.t]
    · by_cases hx : x ∈ q.2.wo
      · exact e6 x hx
      · rw [e7 x hx, e9 x hx, hs.o]

theorem RunL.front : ∀ {l1 l2 : List (Nat × Ft)} {q : Nat × Ft} {s s' : St}, RunL C ops (l1 ++ q :: l2) s s' → (∀ x, x ∈ l1 → Ft.clash x.2 q.2 = false) → RunL C ops (q :: (l1 ++ l2)) s s' := by
  intro l1
  induction l1 with
  | nil => intro l2 q s s' h _; exact h
  | cons x l1 ih =>
    intro l2 q s s' h hc
    obtain ⟨o, s1, h1, h2, h3⟩ := h
    obtain ⟨p, s2, g1, g2, g3⟩ := ih h3 fun y hy => hc y (List.mem_cons_of_mem _ hy)
    obtain ⟨t1, t2, k1, k2, k3⟩ := h2.swap g2 (hc x (List.mem_cons_self ..))
    exact ⟨p, t1, g1, k1, o, t2, h1, k2, g3.same k3⟩
end
end Go.Ev
