/- The promise of a function; what it hands back is laid into a state. -/
import Derived.Test.YtfdgkmligadcnaaEv19
set_option linter.unusedVariables false
set_option linter.unusedSimpArgs false
namespace Go.Ev
open Go

def retV : List Value → Value
  | [u] => u
  | us => .tuple us.toArray

/-- a call of a function, with or without a body -/
def CallsF (P : Program) (f : FuncId) (us : Array Value) (w : World) (Post : Value → World → Prop) : Prop :=
  match (callFunc f us).run P w with
  | .ok (.value v) w' => Post v w'
  | .ok (.enter f args) w' => Calls P f args w' fun e w'' => match e with | .returned v => Post v w'' | _ => False
  | _ => False

/-- what the caller finds -/
structure Found (g : Sig) (x : g.ps.den) (us : List Value) (bs : List Nat) (w : World) (y : g.T) (u : Value) (w' : World) (rs : List Value) (bs1 bs2 : List Nat) : Prop where
  ret : u = retV rs
  fr : Fr w (· ∈ bs) w'
  nodup : (bs1 ++ bs2).Nodup
  from' : ∀ b, b ∈ bs1 ++ bs2 → b ∈ bs ∨ w.heap.size ≤ b
  rs : Args w' (· ∈ bs1 ++ bs2) g.rs (g.res x y) rs bs1
  outs : Outs w' (· ∈ bs1 ++ bs2) g.ps (g.out x y) us bs2

/-- the function computes what the signature's model says -/
def Meets (P : Program) (f : FuncId) (g : Sig) : Prop :=
  ∀ (w : World) (x : g.ps.den) (us : List Value) (bs : List Nat), bs.Nodup → Args w (· ∈ bs) g.ps x us bs → ∀ y, g.m x = some y →
    CallsF P f us.toArray w fun u w' => ∃ rs bs1 bs2, Found g x us bs w y u w' rs bs1 bs2

theorem toAV_agg : ∀ (t : Ty) (x : t.den), (toAV t x).agg = t.agg := by intro t x; cases t <;> rfl
theorem shT_ne_bad (t : Ty) : shT t ≠ .bad := by cases t <;> simp [shT]
theorem toAV_leaf {t : Ty} {x : t.den} (h : (toAV t x).agg = false) : (toAV t x).sh = .leaf := by
  cases t <;> simp [toAV, AV.agg] at h <;> rfl
theorem toAV_live (t : Ty) (x : t.den) : (toAV t x).dead = false := by cases t <;> rfl

section
variable {P : Program} {C : Cx} {W0 : World} {F0 : Base} {ρ : Nat → Option Loc} {s s' : St} {a : Act} {w : World}

/-- objects laid from a place on -/
structure Laid (nx n : Nat) (l : List (Nat × AV)) (τ : Nat → Option Loc) (pl : List (Nat × Nat)) (bs : List Nat) : Prop where
  le : nx ≤ n
  mem : ∀ p, p ∈ l → nx ≤ p.1 ∧ p.1 < n
  sub : (pl.map (·.2)).Sublist bs
  blk : ∀ o k, o ∈ namesOf l → τ o = some k → (o, k.b) ∈ pl
  live : ∀ p, p ∈ l → p.2.dead = false
  names : ∀ p, p ∈ pl → p.1 ∈ namesOf l

def OnE (E : Env) (l : List (Nat × AV)) (τ : Nat → Option Loc) : Prop := ∀ p, p ∈ l → E.s p.1 = some p.2 ∧ E.ρ p.1 = τ p.1
def ObsOK (E : Env) (l : List (Nat × AV)) : Prop := ∀ p, p ∈ l → ObOK E p.1 p.2

theorem Laid.nil (nx : Nat) : Laid nx nx [] (fun _ => none) [] [] := ⟨Nat.le_refl _, by simp, List.Sublist.refl _, by simp [namesOf], by simp, by simp⟩

theorem Laid.append {nx n n' : Nat} {l l' : List (Nat × AV)} {τ τ' : Nat → Option Loc} {pl pl' : List (Nat × Nat)} {bs bs' : List Nat} (h : Laid nx n l τ pl bs) (h' : Laid n n' l' τ' pl' bs') :
    Laid nx n' (l ++ l') (fun o => if o < n then τ o else τ' o) (pl ++ pl') (bs ++ bs') := by
  refine ⟨Nat.le_trans h.le h'.le, fun p hp => ?_, by rw [List.map_append]; exact h.sub.append h'.sub, fun o k ho hk => ?_, fun p hp => ?_, fun p hp => ?_⟩
  · rcases List.mem_append.1 hp with hp | hp
    · exact ⟨(h.mem p hp).1, Nat.lt_of_lt_of_le (h.mem p hp).2 h'.le⟩
    · exact ⟨Nat.le_trans h.le (h'.mem p hp).1, (h'.mem p hp).2⟩
  · simp only [namesOf, List.map_append, List.mem_append, List.mem_map] at ho
    rcases ho with ⟨p, hp, rfl⟩ | ⟨p, hp, rfl⟩
    · have := (h.mem p hp).2
      simp only [this, if_true] at hk
      exact List.mem_append_left _ (h.blk _ k (List.mem_map.2 ⟨p, hp, rfl⟩) hk)
    · have := (h'.mem p hp).1
      have hn : ¬ p.1 < n := by omega
      simp only [hn, if_false] at hk
      exact List.mem_append_right _ (h'.blk _ k (List.mem_map.2 ⟨p, hp, rfl⟩) hk)
  · rcases List.mem_append.1 hp with hp | hp
    · exact h.live p hp
    · exact h'.live p hp
  · simp only [namesOf, List.map_append]
    rcases List.mem_append.1 hp with hp | hp
    · exact List.mem_append_left _ (h.names p hp)
    · exact List.mem_append_right _ (h'.names p hp)

theorem OnE.append {E : Env} {nx n n' : Nat} {l l' : List (Nat × AV)} {τ τ' : Nat → Option Loc} {pl pl' : List (Nat × Nat)} {bs bs' : List Nat} (h : Laid nx n l τ pl bs) (h' : Laid n n' l' τ' pl' bs')
    (hE : OnE E (l ++ l') fun o => if o < n then τ o else τ' o) : OnE E l τ ∧ OnE E l' τ' := by
  refine ⟨fun p hp => ?_, fun p hp => ?_⟩
  · have := hE p (List.mem_append_left _ hp)
    dsimp only at this
    rw [if_pos (h.mem p hp).2] at this; exact this
  · have := hE p (List.mem_append_right _ hp)
    have hn : ¬ p.1 < n := by have := (h'.mem p hp).1; omega
    dsimp only at this
    rw [if_neg hn] at this; exact this

theorem inS_out {α : Type} {r : α} {F' : Nat → Prop} : ∀ {sp : SP} {x : sp.den} {nx : Nat} {k : AV → List (Nat × AV) → Nat → Pg α} {cs : List Value} {bs : List Nat}, Tr w F' sp x cs bs → (inS sp x nx k).Out s r s' →
    ∃ c l n τ pl, (k c l n).Out s r s' ∧ Laid nx n l τ pl bs ∧ c.sh.size = sp.size ∧ c.agg = sp.agg ∧ c.sh ≠ .bad ∧ (c.agg = false → c.sh = .leaf) ∧ c.dead = false ∧
      ∀ E : Env, E.w = w → OnE E l τ → (sp.noSl = true ∨ ∀ b, E.F b → F' b) → Ce E c cs ∧ ObsOK E l := by
  intro sp
  have key : ∀ {sp : SP} {x : sp.den} {nx : Nat} {k : AV → List (Nat × AV) → Nat → Pg α} {u : Value} {bs : List Nat} (ih : ∀ {x : sp.den} {nx : Nat} {k : AV → List (Nat × AV) → Nat → Pg α} {cs : List Value} {bs : List Nat}, Tr w F' sp x cs bs → (inS sp x nx k).Out s r s' →
      ∃ c l n τ pl, (k c l n).Out s r s' ∧ Laid nx n l τ pl bs ∧ c.sh.size = sp.size ∧ c.agg = sp.agg ∧ c.sh ≠ .bad ∧ (c.agg = false → c.sh = .leaf) ∧ c.dead = false ∧
        ∀ E : Env, E.w = w → OnE E l τ → (sp.noSl = true ∨ ∀ b, E.F b → F' b) → Ce E c cs ∧ ObsOK E l),
      Behind w (Tr w F' sp x) u bs → (inS sp x (nx + 1) fun c l n => k (.ref nx []) ((nx, c) :: l) n).Out s r s' →
      ∃ l n τ pl, (k (.ref nx []) l n).Out s r s' ∧ Laid nx n l τ pl bs ∧
        ∀ E : Env, E.w = w → OnE E l τ → (sp.noSl = true ∨ ∀ b, E.F b → F' b) → Ce E (.ref nx []) [u] ∧ ObsOK E l := by
    intro sp x nx k u bs ih hb ho
    obtain ⟨b, off, cells, T, fr, ds, bs', rfl, rfl, h3, h5, h6, h7, h8⟩ := hb
    obtain ⟨c, l, n, τ, pl, g1, g2, g3, g4, g5, g5', g6, g7⟩ := ih h8 ho
    refine ⟨(nx, c) :: l, n, fun o => if o = nx then some ⟨b, off⟩ else τ o, (nx, b) :: pl, g1, ⟨Nat.le_of_succ_le g2.le, fun p hp => ?_, ?_, fun o k ho hk => ?_, fun p hp => ?_, fun p hp => ?_⟩, fun E hw hE hF => ?_⟩
    · rcases List.mem_cons.1 hp with rfl | hp
      · exact ⟨Nat.le_refl _, g2.le⟩
      · exact ⟨Nat.le_of_succ_le (g2.mem p hp).1, (g2.mem p hp).2⟩
    · exact g2.sub.cons_cons _
    · by_cases e : o = nx
      · subst e
        simp only [if_true, Option.some.injEq] at hk
        subst hk
        exact List.mem_cons_self ..
      · simp only [e, if_false] at hk
        simp only [namesOf, List.map_cons, List.mem_cons] at ho
        exact List.mem_cons_of_mem _ (g2.blk o k (ho.resolve_left e) hk)
    · rcases List.mem_cons.1 hp with rfl | hp
      · exact g6
      · exact g2.live p hp
    · rcases List.mem_cons.1 hp with rfl | hp
      · exact List.mem_cons_self ..
      · exact List.mem_cons_of_mem _ (g2.names p hp)
    · have h0 := hE (nx, c) (List.mem_cons_self ..)
      simp only [if_true] at h0
      have hE' : OnE E l τ := fun p hp => by
        have := hE p (List.mem_cons_of_mem _ hp)
        have hn : p.1 ≠ nx := by have := (g2.mem p hp).1; omega
        dsimp only at this
        rw [if_neg hn] at this; exact this
      obtain ⟨f1, f2⟩ := g7 E hw hE' hF
      refine ⟨⟨_, rfl, c, h0.1, .inr ⟨⟨b, off⟩, 0, c.sh, h0.2, rfl, rfl⟩⟩, fun p hp => ?_⟩
      rcases List.mem_cons.1 hp with rfl | hp
      · exact .inl ⟨⟨b, off⟩, cells, T, fr, ds, h0.2, by rw [hw]; exact h3, f1, h5, h6, h7⟩
      · exact f2 p hp
  induction sp with
  | pure t =>
    intro x nx k cs bs ht ho
    obtain ⟨hp, rfl⟩ := ht
    refine ⟨_, [], nx, fun _ => none, [], ho, Laid.nil nx, toAV_size t x, toAV_agg t x, by rw [toAV_sh]; exact shT_ne_bad t, toAV_leaf, toAV_live t x, fun E hw hE hF => ⟨?_, by intro p hp; simp at hp⟩⟩
    refine ce_toAV ?_
    rcases hF with hF | hF
    · exact hp.anywhere hF
    · exact hp.mono fun b o hb ho => ⟨by rw [hw]; exact ho, fun hn => hb (hF b hn)⟩
  | own t =>
    intro x nx k cs bs ht ho
    obtain ⟨ad, cap, rfl, hcap, hh⟩ := ht
    rcases hh with ⟨h0, rfl⟩ | ⟨b, off, cells, T, fr, rfl, rfl, h1, h2, h3, h4⟩
    · refine ⟨_, _, _, fun _ => none, [], ho, ⟨Nat.le_succ _, fun p hp => ?_, List.Sublist.refl _, fun o k _ hk => by simp at hk, fun p hp => ?_, by simp⟩, rfl, rfl, by simp [AV.sh], fun _ => rfl, rfl, fun E hw hE hF => ?_⟩
      · rw [List.mem_singleton] at hp; subst hp; exact ⟨Nat.le_refl _, Nat.lt_succ_self _⟩
      · rw [List.mem_singleton] at hp; subst hp; rfl
      · have h1 := hE _ (List.mem_singleton.2 rfl)
        have hx : x = [] := List.eq_nil_of_length_eq_zero (by omega)
        refine ⟨⟨_, rfl, List.length x, ad, cap, rfl, hcap, _, h1.1, .inr ⟨t, rfl, .inl h0⟩⟩, fun p hp => ?_⟩
        rw [List.mem_singleton] at hp; subst hp
        exact .inr ⟨h1.2, t, by rw [hx]⟩
    · refine ⟨_, _, _, fun _ => some ⟨b, off⟩, [(nx, b)], ho, ⟨Nat.le_succ _, fun p hp => ?_, List.Sublist.refl _, fun o k ho hk => ?_, fun p hp => ?_, fun p hp => ?_⟩, rfl, rfl, by simp [AV.sh], fun _ => rfl, rfl, fun E hw hE hF => ?_⟩
      · rw [List.mem_singleton] at hp; subst hp; exact ⟨Nat.le_refl _, Nat.lt_succ_self _⟩
      · simp only [namesOf, List.map_cons, List.map_nil, List.mem_singleton] at ho
        simp only [Option.some.injEq] at hk
        subst ho; subst hk; exact List.mem_singleton.2 rfl
      · rw [List.mem_singleton] at hp; subst hp; rfl
      · rw [List.mem_singleton] at hp; subst hp; exact List.mem_singleton.2 rfl
      · have g1 := hE _ (List.mem_singleton.2 rfl)
        have hle : List.length x * t.size ≤ cap * t.size := Nat.mul_le_mul_right _ hcap
        refine ⟨⟨_, rfl, List.length x, _, cap, rfl, hcap, _, g1.1, .inr ⟨t, rfl, .inr ⟨⟨b, off⟩, cells, T, fr, g1.2, rfl, by rw [hw]; exact h1, h2⟩⟩⟩, fun p hp => ?_⟩
        rw [List.mem_singleton] at hp; subst hp
        have hl : (seg cells off (List.length x * t.size)).length = List.length x * t.size := seg_length (by omega)
        refine .inl ⟨⟨b, off⟩, cells, T, fr, seg cells off (List.length x * t.size), g1.2, by rw [hw]; exact h1, ?_, by rw [hl]; show off + _ ≤ _; omega, by rw [hl], h3⟩
        show Pu E.w E.F (.arr (List.length x) t) x _
        rcases hF with hF | hF
        · exact h4.anywhere (t := .arr _ _) hF
        · exact h4.mono fun b o hb ho => ⟨by rw [hw]; exact ho, fun hn => hb (hF b hn)⟩
  | rptr t =>
    intro x nx k cs bs ht ho
    obtain ⟨rfl, b, off, cells, T, fr, rfl, hnF, hb, hs, hp⟩ := ht
    refine ⟨_, [], nx, fun _ => none, [], ho, Laid.nil nx, rfl, rfl, by simp [AV.sh], fun _ => rfl, rfl, fun E hw hE hF => ⟨?_, by intro p hp; simp at hp⟩⟩
    rcases hF with hF | hF
    · simp [SP.noSl] at hF
    · exact ⟨_, rfl, b, off, cells, T, fr, rfl, fun hn => hnF (hF b hn), by rw [hw]; exact hb, hs, hp.mono fun b o hb ho => ⟨by rw [hw]; exact ho, fun hn => hb (hF b hn)⟩⟩
  | ptr sp ih =>
    intro x nx k cs bs ht ho
    obtain ⟨u, rfl, hb⟩ := ht
    obtain ⟨l, n, τ, pl, g1, g2, g3⟩ := key ih hb ho
    exact ⟨_, l, n, τ, pl, g1, g2, rfl, rfl, by simp [AV.sh], fun _ => rfl, rfl, g3⟩
  | nptr sp ih =>
    intro x nx k cs bs ht ho
    simp only [inS] at ho
    rcases ho with ⟨e, ho⟩ | ⟨y, e, ho⟩
    · rw [e] at ht
      obtain ⟨rfl, rfl⟩ := ht
      exact ⟨_, [], nx, fun _ => none, [], ho, Laid.nil nx, rfl, rfl, by simp [AV.sh], fun _ => rfl, rfl, fun E hw hE hF => ⟨rfl, by intro p hp; simp at hp⟩⟩
    · rw [e] at ht
      obtain ⟨u, rfl, hb⟩ := ht
      obtain ⟨l, n, τ, pl, g1, g2, g3⟩ := key ih hb ho
      exact ⟨_, l, n, τ, pl, g1, g2, rfl, rfl, by simp [AV.sh], fun _ => rfl, rfl, g3⟩
  | nl =>
    intro x nx k cs bs ht ho
    obtain ⟨rfl, rfl⟩ := ht
    exact ⟨_, [], nx, fun _ => none, [], ho, Laid.nil nx, rfl, rfl, by simp [AV.sh], fun e => by simp [AV.agg] at e, rfl, fun E hw hE hF => ⟨rfl, by intro p hp; simp at hp⟩⟩
  | cons A B iha ihb =>
    intro x nx k cs bs ht ho
    obtain ⟨bs1, bs2, rfl, t1, t2⟩ := ht
    simp only [inS] at ho
    obtain ⟨c, l, n, τ, pl, g1, g2, g3, g4, g5, g5', g6, g7⟩ := iha t1 ho
    obtain ⟨c', l', n', τ', pl', f1, f2, f3, f4, f5, f5', f6, f7⟩ := ihb t2 g1
    refine ⟨_, _, n', _, _, f1, g2.append f2, by simp [AV.sh, Sh.size, SP.size, g3, f3], rfl, by simp [AV.sh], fun e => by simp [AV.agg] at e, rfl, fun E hw hE hF => ?_⟩
    obtain ⟨e1, e2⟩ := hE.append g2 f2
    have hF1 : A.noSl = true ∨ ∀ b, E.F b → F' b := hF.imp (fun h => by simp only [SP.noSl, Bool.and_eq_true] at h; exact h.1) id
    have hF2 : B.noSl = true ∨ ∀ b, E.F b → F' b := hF.imp (fun h => by simp only [SP.noSl, Bool.and_eq_true] at h; exact h.2) id
    obtain ⟨k1, k2⟩ := g7 E hw e1 hF1
    obtain ⟨k3, k4⟩ := f7 E hw e2 hF2
    refine ⟨⟨by rw [g3]; exact k1, by rw [g3]; exact k3⟩, fun p hp => ?_⟩
    rcases List.mem_append.1 hp with hp | hp
    · exact k2 p hp
    · exact k4 p hp

theorem inA_out {α : Type} {r : α} {F' : Nat → Prop} : ∀ {sp : SP}, sp.isList = true → ∀ {x : sp.den} {nx : Nat} {k : AV → List (Nat × AV) → Nat → Pg α} {us : List Value} {bs : List Nat}, Args w F' sp x us bs → (inS sp x nx k).Out s r s' →
    ∃ c l n τ pl, (k c l n).Out s r s' ∧ Laid nx n l τ pl bs ∧
      ∀ E : Env, E.w = w → OnE E l τ → (sp.noSl = true ∨ ∀ b, E.F b → F' b) → ValT E c us ∧ ObsOK E l := by
  intro sp
  induction sp with
  | nl =>
    intro _ x nx k us bs ht ho
    obtain ⟨rfl, rfl⟩ := ht
    exact ⟨_, [], nx, fun _ => none, [], ho, Laid.nil nx, fun E hw hE hF => ⟨rfl, by intro p hp; simp at hp⟩⟩
  | cons A B iha ihb =>
    intro hl x nx k us bs ht ho
    obtain ⟨u, rest, bs1, bs2, rfl, rfl, t1, t2⟩ := ht
    simp only [inS] at ho
    have hd : ∃ c l n τ pl, (inS B x.2 n fun u m n' => k (.cons c u) (l ++ m) n').Out s r s' ∧ Laid nx n l τ pl bs1 ∧ ∀ E : Env, E.w = w → OnE E l τ → (A.noSl = true ∨ ∀ b, E.F b → F' b) → Val1 E c u ∧ ObsOK E l := by
      rcases t1 with ⟨e1, cs, rfl, t1⟩ | ⟨e1, t1⟩
      · obtain ⟨c, l, n, τ, pl, g1, g2, g3, g4, g5, g5', g6, g7⟩ := inS_out t1 ho
        refine ⟨c, l, n, τ, pl, g1, g2, fun E hw hE hF => ?_⟩
        obtain ⟨k1, k2⟩ := g7 E hw hE hF
        exact ⟨.inr (.inl ⟨g4.trans e1, cs, rfl, k1⟩), k2⟩
      · obtain ⟨c, l, n, τ, pl, g1, g2, g3, g4, g5, g5', g6, g7⟩ := inS_out t1 ho
        refine ⟨c, l, n, τ, pl, g1, g2, fun E hw hE hF => ?_⟩
        obtain ⟨k1, k2⟩ := g7 E hw hE hF
        exact ⟨.inr (.inr ⟨g4.trans e1, g5' (g4.trans e1), k1⟩), k2⟩
    obtain ⟨c, l, n, τ, pl, g1, g2, g7⟩ := hd
    obtain ⟨c', l', n', τ', pl', f1, f2, f7⟩ := ihb hl t2 g1
    refine ⟨_, _, n', _, _, f1, g2.append f2, fun E hw hE hF => ?_⟩
    obtain ⟨e1, e2⟩ := hE.append g2 f2
    have hF1 : A.noSl = true ∨ ∀ b, E.F b → F' b := hF.imp (fun h => by simp only [SP.noSl, Bool.and_eq_true] at h; exact h.1) id
    have hF2 : B.noSl = true ∨ ∀ b, E.F b → F' b := hF.imp (fun h => by simp only [SP.noSl, Bool.and_eq_true] at h; exact h.2) id
    obtain ⟨k1, k2⟩ := g7 E hw e1 hF1
    obtain ⟨k3, k4⟩ := f7 E hw e2 hF2
    refine ⟨⟨u, rest, rfl, k1, k3⟩, fun p hp => ?_⟩
    rcases List.mem_append.1 hp with hp | hp
    · exact k2 p hp
    · exact k4 p hp
  | _ => intro hl; simp [SP.isList] at hl

/-- contents for the objects of a caller, and what they lead to -/
structure Back (s : St) (ρ : Nat → Option Loc) (w : World) (nx n : Nat) (ws l : List (Nat × AV)) (τ : Nat → Option Loc) (pl : List (Nat × Nat)) (bs : List Nat) : Prop where
  le : nx ≤ n
  mem : ∀ p, p ∈ l → nx ≤ p.1 ∧ p.1 < n
  sub : (pl.map (·.2)).Sublist bs
  blk : ∀ o k, o ∈ namesOf l → τ o = some k → (o, k.b) ∈ pl
  live : ∀ p, p ∈ l → p.2.dead = false
  old : ∀ p, p ∈ ws → (∀ d, s.o p.1 = some d → d.sh ≠ .bad) → ∃ k, ρ p.1 = some k ∧ (p.1, k.b) ∈ pl
  oldlive : ∀ p, p ∈ ws → p.2.dead = false
  ok : ∀ E : Env, E.w = w → OnE E l τ → OnE E ws ρ → (∀ p, p ∈ ws → ∀ d, s.o p.1 = some d → d.sh ≠ .bad) → ObsOK E l ∧ ObsOK E ws

theorem Back.none (nx : Nat) : Back s ρ w nx nx [] [] (fun _ => Option.none) [] [] :=
  ⟨Nat.le_refl _, by simp, List.Sublist.refl _, by simp [namesOf], by simp, by simp, by simp, fun E _ _ _ _ => ⟨by intro p hp; simp at hp, by intro p hp; simp at hp⟩⟩

theorem Back.append {nx n n' : Nat} {ws l ws' l' : List (Nat × AV)} {τ τ' : Nat → Option Loc} {pl pl' : List (Nat × Nat)} {bs bs' : List Nat} (g : Back s ρ w nx n ws l τ pl bs) (f : Back s ρ w n n' ws' l' τ' pl' bs') :
    Back s ρ w nx n' (ws ++ ws') (l ++ l') (fun o => if o < n then τ o else τ' o) (pl ++ pl') (bs ++ bs') := by
  refine ⟨Nat.le_trans g.le f.le, fun p hp => ?_, by rw [List.map_append]; exact g.sub.append f.sub, fun o k ho hk => ?_, fun p hp => ?_, fun p hp hlv => ?_, fun p hp => ?_, fun E hw hE hEw hlv => ?_⟩
  · rcases List.mem_append.1 hp with hp | hp
    · exact ⟨(g.mem p hp).1, Nat.lt_of_lt_of_le (g.mem p hp).2 f.le⟩
    · exact ⟨Nat.le_trans g.le (f.mem p hp).1, (f.mem p hp).2⟩
  · simp only [namesOf, List.map_append, List.mem_append, List.mem_map] at ho
    rcases ho with ⟨p, hp, rfl⟩ | ⟨p, hp, rfl⟩
    · have := (g.mem p hp).2
      simp only [this, if_true] at hk
      exact List.mem_append_left _ (g.blk _ k (List.mem_map.2 ⟨p, hp, rfl⟩) hk)
    · have := (f.mem p hp).1
      have hn : ¬ p.1 < n := by omega
      simp only [hn, if_false] at hk
      exact List.mem_append_right _ (f.blk _ k (List.mem_map.2 ⟨p, hp, rfl⟩) hk)
  · rcases List.mem_append.1 hp with hp | hp
    · exact g.live p hp
    · exact f.live p hp
  · rcases List.mem_append.1 hp with hp | hp
    · obtain ⟨k, h1, h2⟩ := g.old p hp hlv; exact ⟨k, h1, List.mem_append_left _ h2⟩
    · obtain ⟨k, h1, h2⟩ := f.old p hp hlv; exact ⟨k, h1, List.mem_append_right _ h2⟩
  · rcases List.mem_append.1 hp with hp | hp
    · exact g.oldlive p hp
    · exact f.oldlive p hp
  · have e1 : OnE E l τ := fun p hp => by
      have := hE p (List.mem_append_left _ hp)
      dsimp only at this
      rw [if_pos (g.mem p hp).2] at this; exact this
    have e2 : OnE E l' τ' := fun p hp => by
      have := hE p (List.mem_append_right _ hp)
      have hn : ¬ p.1 < n := by have := (f.mem p hp).1; omega
      dsimp only at this
      rw [if_neg hn] at this; exact this
    obtain ⟨k1, k2⟩ := g.ok E hw e1 (fun p hp => hEw p (List.mem_append_left _ hp)) (fun p hp => hlv p (List.mem_append_left _ hp))
    obtain ⟨k3, k4⟩ := f.ok E hw e2 (fun p hp => hEw p (List.mem_append_right _ hp)) (fun p hp => hlv p (List.mem_append_right _ hp))
    refine ⟨fun p hp => ?_, fun p hp => ?_⟩
    · rcases List.mem_append.1 hp with hp | hp
      · exact k1 p hp
      · exact k3 p hp
    · rcases List.mem_append.1 hp with hp | hp
      · exact k2 p hp
      · exact k4 p hp

theorem reO_out {α : Type} {r : α} {F' : Nat → Prop} {wold : World} {t t' : St} : ∀ {sp : SP}, sp.parOk = true → ∀ {y : sp.odn} {us : List Value} {bs : List Nat} {vs : AV} {nx : Nat} {k : List (Nat × AV) → List (Nat × AV) → Nat → Pg α},
    Outs w F' sp y us bs → us.length = sp.len → (∀ p, p ∈ fxOf vs us → Val ⟨wold, s.o, ρ⟩ p.1 p.2) → (reO sp y vs nx k).Out t r t' →
    ∃ ws l n τ pl, (k ws l n).Out t r t' ∧ Back s ρ w nx n ws l τ pl bs := by
  intro sp
  have one : ∀ {sp : SP}, sp.par1 = true → ∀ {y : sp.odn} {u : Value} {bs : List Nat} {v : AV} {nx : Nat} {k : List (Nat × AV) → List (Nat × AV) → Nat → Pg α},
      Outs w F' sp y [u] bs → Val ⟨wold, s.o, ρ⟩ v u → (reO sp y v nx k).Out t r t' →
      ∃ ws l n τ pl, (k ws l n).Out t r t' ∧ Back s ρ w nx n ws l τ pl bs := by
    intro sp hp
    have ptr : ∀ {sp : SP}, sp.noSl = true → ∀ {y : sp.den} {u : Value} {bs : List Nat} {o : Nat} {nx : Nat} {k : List (Nat × AV) → List (Nat × AV) → Nat → Pg α},
        Behind w (Tr w F' sp y) u bs → Val ⟨wold, s.o, ρ⟩ (.ref o []) u → (inS sp y nx fun c l n => k [(o, c)] l n).Out t r t' →
        ∃ ws l n τ pl, (k ws l n).Out t r t' ∧ Back s ρ w nx n ws l τ pl bs := by
      intro sp hn y u bs o nx k hb hv ho
      obtain ⟨b, off, cells, T, fr, ds, bs', rfl, rfl, h3, h5, h6, h7, h8⟩ := hb
      obtain ⟨c, l, n, τ, pl, g1, g2, g3, g4, g5, g5', g6, g7⟩ := inS_out h8 ho
      obtain ⟨ad, had, d, hd, hA⟩ := hv.ref_eq
      simp only [Value.pointer.injEq, Option.some.injEq] at had
      subst had
      have loc : (∀ d, s.o o = some d → d.sh ≠ .bad) → ρ o = some ⟨b, off⟩ := fun hl => by
        rcases hA with hA | ⟨l', k', e', h1, h2, h3⟩
        · exact absurd hA (hl d hd)
        · simp only [Sh.off, Option.some.injEq, Prod.mk.injEq] at h2
          obtain ⟨rfl, rfl⟩ := h2
          simp only [Addr.mk.injEq, Nat.add_zero, and_true] at h3
          have h1 : ρ o = some l' := h1
          rw [h1]
          cases l'; simp only [Option.some.injEq, Loc.mk.injEq]; exact ⟨h3.1.symm, h3.2.symm⟩
      refine ⟨_, l, n, τ, (o, b) :: pl, g1, g2.le, g2.mem, g2.sub.cons_cons _, fun q k hq hk => List.mem_cons_of_mem _ (g2.blk q k hq hk), g2.live, fun p hp hl => ?_, fun p hp => ?_, fun E hw hE hEw hl => ?_⟩
      · rw [List.mem_singleton] at hp; subst hp
        exact ⟨_, loc hl, List.mem_cons_self ..⟩
      · rw [List.mem_singleton] at hp; subst hp; exact g6
      · obtain ⟨k1, k2⟩ := g7 E hw hE (.inl hn)
        refine ⟨k2, fun p hp => ?_⟩
        have h0 := hEw p hp
        have hl' := hl p hp
        rw [List.mem_singleton] at hp; subst hp
        exact .inl ⟨⟨b, off⟩, cells, T, fr, ds, by rw [h0.2]; exact loc hl', by rw [hw]; exact h3, k1, h5, h6, h7⟩
    intro y u bs v nx k hout hv ho
    cases sp with
    | pure t =>
      have hout : bs = [] := hout
      subst hout
      exact ⟨[], [], nx, fun _ => none, [], ho, Back.none nx⟩
    | rptr t =>
      have hout : bs = [] := hout
      subst hout
      exact ⟨[], [], nx, fun _ => none, [], ho, Back.none nx⟩
    | ptr sp =>
      obtain ⟨u', hu', hb⟩ := hout
      simp only [List.cons.injEq, and_true] at hu'
      subst hu'
      simp only [reO] at ho
      split at ho
      · exact ptr (by simpa [SP.par1] using hp) hb hv ho
      · exact ho.elim
    | nptr sp =>
      simp only [reO] at ho
      split at ho
      · rcases ho with ⟨e, ho⟩ | ⟨y', e, ho⟩
        · exact ho.elim
        · rw [e] at hout
          obtain ⟨u', hu', hb⟩ := hout
          simp only [List.cons.injEq, and_true] at hu'
          subst hu'
          exact ptr (by simpa [SP.par1] using hp) hb hv ho
      · have hbs : bs = [] := by
          cases y with
          | none => exact hout.2
          | some y' =>
            exfalso
            obtain ⟨u', hu', b, off, cells, T, fr, ds, bs', e, _⟩ := hout
            simp only [List.cons.injEq, and_true] at hu'
            subst hu'
            rw [hv.nilp_eq] at e
            simp at e
        subst hbs
        exact ⟨[], [], nx, fun _ => none, [], ho, Back.none nx⟩
      · exact ho.elim
    | _ => simp [SP.par1] at hp
  induction sp with
  | nl =>
    intro _ y us bs vs nx k hout hl hfx ho
    have hout : bs = [] := hout
    subst hout
    exact ⟨[], [], nx, fun _ => none, [], ho, Back.none nx⟩
  | cons A B iha ihb =>
    intro hp y us bs vs nx k hout hl hfx ho
    simp only [SP.parOk, Bool.and_eq_true] at hp
    obtain ⟨u, rest, bs1, bs2, rfl, rfl, o1, o2⟩ := hout
    simp only [reO] at ho
    split at ho
    · obtain ⟨ws, l, n, τ, pl, g1, g2⟩ := one hp.1 o1 (hfx _ (List.mem_cons_self ..)) ho
      obtain ⟨ws', l', n', τ', pl', f1, f2⟩ := ihb hp.2 o2 (by simpa [SP.len] using hl) (fun p hp => hfx p (List.mem_cons_of_mem _ hp)) g1
      exact ⟨_, _, n', _, _, f1, g2.append f2⟩
    · exact ho.elim
  | _ => intro hp; simp [SP.parOk] at hp
end
end Go.Ev
