/- Code: loops begin each round from a state of a kept form. -/
import Derived.Test.YtfdgkmligadcnaaEv24
set_option linter.unusedVariables false
set_option linter.unusedSimpArgs false
namespace Go.Ev
open Go

theorem look_mem : ∀ {l : List (Nat × AV)} {i : Nat}, look l i = .top ∨ (i, look l i) ∈ l := by
  intro l i
  induction l with
  | nil => exact .inl rfl
  | cons q l ih =>
    obtain ⟨j, v⟩ := q
    rw [look_cons]
    by_cases e : j = i
    · subst e; rw [if_pos rfl]; exact .inr (List.mem_cons_self ..)
    · rw [if_neg e]
      rcases ih with h | h
      · exact .inl h
      · exact .inr (List.mem_cons_of_mem _ h)
theorem look?_some : ∀ {l : List (Nat × AV)} {i : Nat} {c : AV}, look? l i = some c → (i, c) ∈ l := by
  intro l i c
  induction l with
  | nil => intro h; simp [look?] at h
  | cons q l ih =>
    obtain ⟨j, v⟩ := q
    rw [look?_cons]
    by_cases e : j = i
    · subst e; rw [if_pos rfl]; intro h; cases h; exact List.mem_cons_self ..
    · rw [if_neg e]; intro h; exact List.mem_cons_of_mem _ (ih h)
theorem look?_mem : ∀ {l : List (Nat × AV)}, (namesOf l).Nodup → ∀ {i : Nat} {c : AV}, (i, c) ∈ l → look? l i = some c := by
  intro l
  induction l with
  | nil => intro _ i c h; simp at h
  | cons q l ih =>
    obtain ⟨j, v⟩ := q
    intro hn i c h
    simp only [namesOf, List.map_cons, List.nodup_cons] at hn
    rw [look?_cons]
    rcases List.mem_cons.1 h with e | h
    · cases e; rw [if_pos rfl]
    · have : j ≠ i := fun e => hn.1 (by rw [e]; exact List.mem_map.2 ⟨_, h, rfl⟩)
      rw [if_neg this]; exact ih hn.2 h
theorem subN_spec : ∀ {l m : List Nat}, subN l m = true → ∀ i, i ∈ l → i ∈ m := by
  intro l m
  induction l with
  | nil => intro _ i hi; simp at hi
  | cons j l ih =>
    intro h i hi
    simp only [subN, Bool.and_eq_true] at h
    rcases List.mem_cons.1 hi with rfl | hi
    · exact memN_iff.1 h.1
    · exact ih h.2 i hi
theorem namesAll_mem : ∀ {l : List (Nat × AV)} {q : Nat × AV}, q ∈ l → ∀ i, i ∈ q.2.names → i ∈ namesAll l := by
  intro l
  induction l with
  | nil => intro q hq; simp at hq
  | cons x l ih =>
    intro q hq i hi
    simp only [namesAll, List.mem_append]
    rcases List.mem_cons.1 hq with rfl | hq
    · exact .inl hi
    · exact .inr (ih hq i hi)

/-- of fewer objects: what is named stays -/
structure Part (E E' : Env) (S : Nat → Prop) : Prop where
  w : E'.w = E.w
  s : ∀ o, S o → E'.s o = E.s o
  ρ : ∀ o, S o → E'.ρ o = E.ρ o
  F : ∀ b, E'.F b → E.F b

theorem Part.pu {E E' : Env} {S : Nat → Prop} (h : Part E E' S) {t : Ty} {x : t.den} {cs : List Value} (k : Pu E.w E.F t x cs) : Pu E'.w E'.F t x cs :=
  k.mono fun b o hb ho => ⟨by rw [h.w]; exact ho, fun hn => hb (h.F b hn)⟩

theorem Part.ce {E E' : Env} {S : Nat → Prop} (h : Part E E' S) : ∀ {c : AV} {cs : List Value}, (∀ o, o ∈ c.names → S o) → Ce E c cs → Ce E' c cs := by
  intro c
  induction c with
  | ref o p =>
    intro cs hn k
    have hS := hn o (by simp [AV.names])
    obtain ⟨a, hc, d, hd, hk⟩ := k
    exact ⟨a, hc, d, (h.s o hS).trans hd, hk.imp id fun ⟨l, k, e, h1, h2⟩ => ⟨l, k, e, (h.ρ o hS).trans h1, h2⟩⟩
  | pref t x =>
    intro cs hn k
    obtain ⟨a, hc, b, off, cells, T, fr, ha, hF, hb, hs, hp⟩ := k
    exact ⟨a, hc, b, off, cells, T, fr, ha, fun hn => hF (h.F b hn), by rw [h.w]; exact hb, hs, h.pu hp⟩
  | view o p off len =>
    intro cs hn k
    have hS := hn o (by simp [AV.names])
    obtain ⟨v, hc, n, a, cap, hv, hn, hcap, d, hd, hk⟩ := k
    exact ⟨v, hc, n, a, cap, hv, hn, hcap, d, (h.s o hS).trans hd, hk.imp id fun ⟨k, t, m, h1, h2, h3, h4⟩ => ⟨k, t, m, h1, h2, h3, h4.imp id fun ⟨l, cells, T, fr, g1, g2, g3, g4⟩ => ⟨l, cells, T, fr, (h.ρ o hS).trans g1, g2, by rw [h.w]; exact g3, g4⟩⟩⟩
  | full o =>
    intro cs hn k
    have hS := hn o (by simp [AV.names])
    obtain ⟨v, hc, n, a, cap, hv, hcap, d, hd, hk⟩ := k
    exact ⟨v, hc, n, a, cap, hv, hcap, d, (h.s o hS).trans hd, hk.imp id fun ⟨t, h1, h4⟩ => ⟨t, h1, h4.imp id fun ⟨l, cells, T, fr, g1, g2, g3, g4⟩ => ⟨l, cells, T, fr, (h.ρ o hS).trans g1, g2, by rw [h.w]; exact g3, g4⟩⟩⟩
  | lst t xs => intro cs _ k; exact Part.pu (t := .sl t) h k
  | arr t n xs => intro cs _ k; exact Part.pu (t := .arr n t) h k
  | bk t xs => intro cs _ k; exact Part.pu (t := .arr xs.length t) h k
  | cons a b iha ihb =>
    intro cs hn k
    simp only [AV.names, List.mem_append] at hn
    exact ⟨iha (fun o ho => hn o (.inl ho)) k.1, ihb (fun o ho => hn o (.inr ho)) k.2⟩
  | iface T v ih => intro cs hn k; obtain ⟨u, hc, hs, k⟩ := k; exact ⟨u, hc, hs, ih hn k⟩
  | _ => intro cs _ k; exact k

theorem Part.val1 {E E' : Env} {S : Nat → Prop} (h : Part E E' S) {v : AV} {u : Value} (hn : ∀ o, o ∈ v.names → S o) (k : Val1 E v u) : Val1 E' v u := by
  rcases k with k | ⟨k1, cs, k2, k3⟩ | ⟨k1, k2, k3⟩
  · exact .inl k
  · exact .inr (.inl ⟨k1, cs, k2, h.ce hn k3⟩)
  · exact .inr (.inr ⟨k1, k2, h.ce hn k3⟩)
theorem Part.valT {E E' : Env} {S : Nat → Prop} (h : Part E E' S) : ∀ {c : AV} {us : List Value}, (∀ o, o ∈ c.names → S o) → ValT E c us → ValT E' c us := by
  intro c
  induction c with
  | cons a b iha ihb =>
    intro us hn k
    simp only [AV.names, List.mem_append] at hn
    obtain ⟨u, r, hu, k1, k2⟩ := k
    exact ⟨u, r, hu, h.val1 (fun o ho => hn o (.inl ho)) k1, ihb (fun o ho => hn o (.inr ho)) k2⟩
  | nl => intro us _ k; exact k
  | _ => intro us _ k; exact k.elim
theorem Part.val {E E' : Env} {S : Nat → Prop} (h : Part E E' S) {v : AV} {u : Value} (hn : ∀ o, o ∈ v.names → S o) (k : Val E v u) : Val E' v u := by
  rcases k with k | ⟨c, us, k1, k2, k3⟩
  · exact .inl (h.val1 hn k)
  · subst k1; exact .inr ⟨c, us, rfl, k2, h.valT hn k3⟩

section
variable {P : Program} {C : Cx} {W0 : World} {F0 : Base} {ρ : Nat → Option Loc} {s s' : St} {a : Act} {w : World}

theorem blk_nodup (h : Rep W0 F0 ρ s a w) : ∀ {l : List Nat}, l.Nodup → (∀ q ∈ l, ∃ c, s.o q = some c ∧ c.sh ≠ .bad) → (blk ρ l).Nodup := by
  intro l
  induction l with
  | nil => intro _ _; simp [blk]
  | cons q l ih =>
    intro hn hl
    simp only [List.nodup_cons] at hn
    have ih' := ih hn.2 fun q hq => hl q (List.mem_cons_of_mem _ hq)
    cases hq : ρ q with
    | none => simpa [blk, hq] using ih'
    | some k =>
      rw [blk_cons hq]
      refine List.nodup_cons.2 ⟨fun hm => ?_, ih'⟩
      obtain ⟨q', hq', e⟩ := List.mem_filterMap.1 hm
      obtain ⟨c, hc, hcs⟩ := hl q (List.mem_cons_self ..)
      obtain ⟨c', hc', hcs'⟩ := hl q' (List.mem_cons_of_mem _ hq')
      cases hk' : ρ q' with
      | none => rw [hk'] at e; simp at e
      | some k' =>
        rw [hk'] at e
        have := h.inj q q' c c' k k' hc hc' hcs hcs' hq hk' (by simpa using e.symm)
        subst this
        exact hn.1 hq'
theorem blk_mem {own : List Nat} (hl : ∀ q ∈ own, ∃ c, s.o q = some c ∧ c.sh ≠ .bad) {b : Nat} (hb : b ∈ blk ρ own) : ∃ q c k, q ∈ own ∧ s.o q = some c ∧ c.sh ≠ .bad ∧ ρ q = some k ∧ k.b = b := by
  obtain ⟨q, hq, e⟩ := List.mem_filterMap.1 hb
  obtain ⟨c, hc, hcs⟩ := hl q hq
  cases hk : ρ q with
  | none => rw [hk] at e; simp at e
  | some k => rw [hk] at e; exact ⟨q, c, k, hq, hc, hcs, hk, by simpa using e⟩

/-- one row that a round owns -/
theorem ownOne_spec (h : Rep W0 F0 ρ s a w) {t : Nat} {ty : Ty} {c : AV} {us : List Nat} (ho : ownOne s t ty = some (c, us)) :
    (∀ q ∈ us, ∃ c, s.o q = some c ∧ c.sh ≠ .bad) ∧ ∃ (lo : Option Loc) (pl : List (Nat × Nat)), (pl.map (·.2)).Sublist (blk ρ us) ∧ (∀ k, lo = some k → (300000 + t, k.b) ∈ pl) ∧
      ∀ E' : Env, E'.w = w → E'.s (300000 + t) = some c → E'.ρ (300000 + t) = lo → (∀ b, E'.F b → Env.F ⟨w, s.o, ρ⟩ b) → Val E' (.full (300000 + t)) (a.tmps.getD t undef) ∧ ObOK E' (300000 + t) c := by
  have hv := h.tm t
  have go : ∀ {ys : List ty.den}, (exS (α := List ty.den × List Nat) (.own ty) (s.t t) fun x own ro => match ro with | [] => .ret (x, own) | _ => .fail).Out s (ys, us) s →
      (∀ q ∈ us, ∃ c, s.o q = some c ∧ c.sh ≠ .bad) ∧ ∃ (lo : Option Loc) (pl : List (Nat × Nat)), (pl.map (·.2)).Sublist (blk ρ us) ∧ (∀ k, lo = some k → (300000 + t, k.b) ∈ pl) ∧
      ∀ E' : Env, E'.w = w → E'.s (300000 + t) = some (.bk ty ys) → E'.ρ (300000 + t) = lo → (∀ b, E'.F b → Env.F ⟨w, s.o, ρ⟩ b) → Val E' (.full (300000 + t)) (a.tmps.getD t undef) ∧ ObOK E' (300000 + t) (.bk ty ys) := by
    intro ys hx
    have hl : (s.t t).sh = .leaf := by
      generalize s.t t = v at hx
      cases v <;> first | rfl | exact hx.elim
    obtain ⟨x, own, ro, bs, g1, g2, g3, g4, g5, g6⟩ := exS_out h (hv.ce hl) hx
    cases ro with
    | cons _ _ => exact g1.elim
    | nil =>
      obtain ⟨e, _⟩ := g1
      simp only [Prod.mk.injEq] at e
      obtain ⟨rfl, rfl⟩ := e
      have hT := g6 (Env.F ⟨w, s.o, ρ⟩) (.inr fun b hb => by
        obtain ⟨o, c, l, h1, h2, h3, h4⟩ := hb
        exact ⟨o, c, l, by simp, h1, h2, h3, h4⟩)
      have hin : (inS (α := AV × List (Nat × AV)) (.own ty) ys (300000 + t) fun v l n => .ret (v, l)).Out s (.full (300000 + t), [(300000 + t, .bk ty ys)]) s := ⟨rfl, rfl⟩
      obtain ⟨c, l, n, τ, pl, f1, f2, _, _, _, _, _, f3⟩ := inS_out hT hin
      obtain ⟨e, _⟩ := f1
      simp only [Prod.mk.injEq] at e
      obtain ⟨rfl, rfl⟩ := e
      refine ⟨g2, τ (300000 + t), pl, f2.sub.trans g3, fun k hk => f2.blk _ k (by simp [namesOf]) hk, fun E' hw hs hr hF => ?_⟩
      obtain ⟨k1, k2⟩ := f3 E' hw (fun p hp => by rw [List.mem_singleton] at hp; subst hp; exact ⟨hs, hr⟩) (.inr hF)
      exact ⟨Val.leaf rfl k1, k2 _ (List.mem_singleton.2 rfl)⟩
  unfold ownOne at ho
  split at ho
  · rename_i hst
    simp only [Option.some.injEq, Prod.mk.injEq] at ho
    obtain ⟨rfl, rfl⟩ := ho
    exact go (ys := []) (by rw [hst]; exact ⟨rfl, rfl⟩)
  · rename_i o hst
    split at ho
    · rename_i t' xs hso
      split at ho
      · rename_i ys hys
        simp only [Option.some.injEq, Prod.mk.injEq] at ho
        obtain ⟨rfl, rfl⟩ := ho
        exact go (ys := ys) (by rw [hst]; exact ⟨_, hso, rfl, by dsimp only; rw [hys]; exact ⟨rfl, rfl⟩⟩)
      · cases ho
    · cases ho
  · rename_i o off len hst
    split at ho
    · rename_i t' xs hso
      split at ho
      · rename_i ys hys
        simp only [Option.some.injEq, Prod.mk.injEq] at ho
        obtain ⟨rfl, rfl⟩ := ho
        exact go (ys := win ys off len) (by rw [hst]; exact ⟨_, hso, rfl, by dsimp only; rw [hys]; exact ⟨rfl, rfl⟩⟩)
      · cases ho
    · cases ho
  · cases ho

theorem ownAll_spec (h : Rep W0 F0 ρ s a w) : ∀ {l : List (Nat × Ty)} {ts obs : List (Nat × AV)} {used : List Nat}, ownAll s l = some (ts, obs, used) → (namesOf obs).Nodup →
    (∀ q ∈ used, ∃ c, s.o q = some c ∧ c.sh ≠ .bad) ∧ ∃ (τ : Nat → Option Loc) (pl : List (Nat × Nat)), (pl.map (·.2)).Sublist (blk ρ used) ∧ (∀ o k, o ∈ namesOf obs → τ o = some k → (o, k.b) ∈ pl) ∧
      ∀ E' : Env, E'.w = w → OnE E' obs τ → (∀ b, E'.F b → Env.F ⟨w, s.o, ρ⟩ b) → (∀ q, q ∈ ts → Val E' q.2 (a.tmps.getD q.1 undef)) ∧ ObsOK E' obs := by
  intro l
  induction l with
  | nil =>
    intro ts obs used ho _
    simp only [ownAll, Option.some.injEq, Prod.mk.injEq] at ho
    obtain ⟨rfl, rfl, rfl⟩ := ho
    exact ⟨by simp, fun _ => none, [], List.Sublist.refl _, by simp [namesOf], fun E' _ _ _ => ⟨by simp, by intro p hp; simp at hp⟩⟩
  | cons q l ih =>
    obtain ⟨t, ty⟩ := q
    intro ts obs used ho hn
    simp only [ownAll] at ho
    split at ho
    · rename_i c os h1
      split at ho
      · rename_i ts' obs' used' h2
        simp only [Option.some.injEq, Prod.mk.injEq] at ho
        obtain ⟨rfl, rfl, rfl⟩ := ho
        simp only [namesOf, List.map_cons, List.nodup_cons] at hn
        obtain ⟨g1, lo, pl, g2, g3, g4⟩ := ownOne_spec h h1
        obtain ⟨f1, τ, pl', f2, f3, f4⟩ := ih h2 hn.2
        refine ⟨fun q hq => (List.mem_append.1 hq).elim (g1 q) (f1 q), fun o => if o = 300000 + t then lo else τ o, pl ++ pl', by rw [List.map_append, blk_append]; exact g2.append f2, fun o k ho hk => ?_, fun E' hw hE hF => ?_⟩
        · by_cases e : o = 300000 + t
          · subst e
            simp only [if_true] at hk
            exact List.mem_append_left _ (g3 k hk)
          · simp only [e, if_false] at hk
            simp only [namesOf, List.map_cons, List.mem_cons] at ho
            exact List.mem_append_right _ (f3 o k (ho.resolve_left e) hk)
        · have h0 := hE _ (List.mem_cons_self ..)
          simp only [if_true] at h0
          have hE' : OnE E' obs' τ := fun p hp => by
            have := hE p (List.mem_cons_of_mem _ hp)
            have hne : p.1 ≠ 300000 + t := fun e => hn.1 (by rw [← e]; exact List.mem_map.2 ⟨p, hp, rfl⟩)
            dsimp only at this
            rw [if_neg hne] at this; exact this
          obtain ⟨k1, k2⟩ := g4 E' hw h0.1 h0.2 hF
          obtain ⟨k3, k4⟩ := f4 E' hw hE' hF
          refine ⟨fun q hq => ?_, fun p hp => ?_⟩
          · rcases List.mem_cons.1 hq with rfl | hq
            · exact k1
            · exact k3 q hq
          · rcases List.mem_cons.1 hp with rfl | hp
            · exact k2
            · exact k4 p hp
      · cases ho
    · cases ho

theorem keepO_spec : ∀ {l : List Nat} {r : List (Nat × AV)}, keepO s l = some r → namesOf r = l ∧ ∀ q, q ∈ r → s.o q.1 = some q.2 := by
  intro l
  induction l with
  | nil => intro r h; simp only [keepO, Option.some.injEq] at h; subst h; exact ⟨rfl, by simp⟩
  | cons o l ih =>
    intro r h
    simp only [keepO] at h
    split at h
    · rename_i c hc
      split at h
      · rename_i r' hr'
        simp only [Option.some.injEq] at h
        subst h
        obtain ⟨h1, h2⟩ := ih hr'
        refine ⟨by simp only [namesOf, List.map_cons] at h1 ⊢; rw [h1], fun q hq => ?_⟩
        rcases List.mem_cons.1 hq with rfl | hq
        · exact hc
        · exact h2 q hq
      · cases h
    · cases h
theorem keepT_spec : ∀ {l : List Nat} {q : Nat × AV}, q ∈ keepT s l → q.2 = s.t q.1 := by
  intro l
  induction l with
  | nil => intro q h; simp [keepT] at h
  | cons t l ih =>
    intro q h
    simp only [keepT, List.mem_cons] at h
    rcases h with rfl | h
    · rfl
    · exact ih h

theorem nrm_spec (h : Rep W0 F0 ρ s a w) {ann : Ann} (hfx : ∀ p, p ∈ F0.fx → ∀ o, o ∈ p.1.names → o ∈ ann.objs) (hn : nrm ann s = some s') : ∃ ρ', Rep W0 F0 ρ' s' a w := by
  unfold nrm at hn
  split at hn
  · rename_i ts obs used hown
    split at hn
    · rename_i l hl
      generalize hcond : (nodupN (used ++ ann.objs) && nodupN (namesOf (l ++ obs)) && subN (namesAll (keepT s ann.keep) ++ namesAll l) ann.objs) = b at hn
      cases b with
      | false => cases hn
      | true =>
        simp only [cond_true, Option.some.injEq] at hn
        subst hn
        simp only [Bool.and_eq_true] at hcond
        obtain ⟨⟨c1, c2⟩, c3⟩ := hcond
        have c1 := nodupN_iff.1 c1
        have c2 := nodupN_iff.1 c2
        have c3 := subN_spec c3
        obtain ⟨hnl, hlo⟩ := keepO_spec hl
        have c2' : (namesOf l ++ namesOf obs).Nodup := by simpa [namesOf] using c2
        rw [List.nodup_append] at c1 c2'
        obtain ⟨nu, nob, dis⟩ := c1
        obtain ⟨n1, n2, dis2⟩ := c2'
        obtain ⟨hlive, τ, pl, hsub, hpl, hE⟩ := ownAll_spec h hown n2
        have hnd := hsub.nodup (blk_nodup h nu hlive)
        let ρ' : Nat → Option Loc := fun o => if memN o ann.objs then ρ o else τ o
        have r1 : ∀ o, o ∈ ann.objs → ρ' o = ρ o := fun o ho => by show (if memN o ann.objs then _ else _) = _; rw [if_pos (memN_iff.2 ho)]
        have r2 : ∀ o, o ∈ namesOf obs → ρ' o = τ o := fun o ho => by
          show (if memN o ann.objs then _ else _) = _
          rw [if_neg]
          intro hm
          exact dis2 o (by rw [hnl]; exact memN_iff.1 hm) o ho rfl
        let s2 : St := ⟨s.n, ts ++ keepT s ann.keep, l ++ obs⟩
        let E' : Env := ⟨w, s2.o, ρ'⟩
        have so : ∀ q, q ∈ l ++ obs → s2.o q.1 = some q.2 := fun q hq => look?_mem c2 hq
        have os : ∀ o c, s2.o o = some c → (o, c) ∈ l ++ obs := fun o c hc => look?_some hc
        have onobs : OnE E' obs τ := fun p hp => ⟨so p (List.mem_append_right _ hp), r2 _ (List.mem_map.2 ⟨p, hp, rfl⟩)⟩
        have inl : ∀ q, q ∈ l → q.1 ∈ ann.objs := fun q hq => by rw [← hnl]; exact List.mem_map.2 ⟨q, hq, rfl⟩
        have ownblk : ∀ o k, o ∈ namesOf obs → τ o = some k → ∃ q c k', q ∈ used ∧ s.o q = some c ∧ c.sh ≠ .bad ∧ ρ q = some k' ∧ k'.b = k.b := by
          intro o k ho hk
          exact blk_mem hlive (hsub.subset (List.mem_map.2 ⟨_, hpl o k ho hk, rfl⟩))
        have hF : ∀ b, E'.F b → Env.F ⟨w, s.o, ρ⟩ b := by
          rintro b ⟨o, c, k, h1, h2, h3, h4⟩
          have h3 : ρ' o = some k := h3
          rcases List.mem_append.1 (os o c h1) with hm | hm
          · rw [r1 o (inl _ hm)] at h3
            exact ⟨o, c, k, hlo _ hm, h2, h3, h4⟩
          · have hm' : o ∈ namesOf obs := List.mem_map.2 ⟨_, hm, rfl⟩
            rw [r2 o hm'] at h3
            obtain ⟨q, c', k', g1, g2, g3, g4, g5⟩ := ownblk o k hm' h3
            exact ⟨q, c', k', g2, g3, g4, g5.trans h4⟩
        have hP : Part ⟨w, s.o, ρ⟩ E' (· ∈ ann.objs) := by
          refine ⟨rfl, fun o ho => ?_, fun o ho => r1 o ho, hF⟩
          rw [← hnl] at ho
          obtain ⟨q, hq, rfl⟩ := List.mem_map.1 ho
          show s2.o q.1 = s.o q.1
          rw [so q (List.mem_append_left _ hq), hlo q hq]
        obtain ⟨ht, hob⟩ := hE E' rfl onobs hF
        refine ⟨ρ', h.size, h.defers, fun t => ?_, fun o c hc hs => ?_, ?_, ?_, h.fr, fun p hp => hP.val (hfx p hp) (h.fx p hp)⟩
        · show Val E' (look (ts ++ keepT s ann.keep) t) _
          rcases look_mem (l := ts ++ keepT s ann.keep) (i := t) with e | e
          · rw [e]; exact Val.top _
          · rcases List.mem_append.1 e with e | e
            · exact ht _ e
            · have hv := keepT_spec e
              have hv : look (ts ++ keepT s ann.keep) t = s.t t := hv
              have hnm := fun i hi => c3 i (List.mem_append_left _ (namesAll_mem e i hi))
              rw [hv] at hnm ⊢
              exact hP.val hnm (h.tm t)
        · rcases List.mem_append.1 (os o c hc) with hm | hm
          · have hnm := fun i hi => c3 i (List.mem_append_right _ (namesAll_mem hm i hi))
            rcases h.ob o c (hlo _ hm) hs with ⟨k, cells, T, fr, cs, g1, g2, g3, g4, g5, g6⟩ | g
            · exact .inl ⟨k, cells, T, fr, cs, (r1 o (inl _ hm)).trans g1, g2, hP.ce hnm g3, g4, g5, g6⟩
            · exact .inr ⟨(r1 o (inl _ hm)).trans g.1, g.2⟩
          · exact hob _ hm
        · intro o o' c c' k k' hc hc' hs hs' hk hk' hb
          have mixed : ∀ {o o' : Nat} {c c' : AV} {k k' : Loc}, (o, c) ∈ l → c.sh ≠ .bad → (o', c') ∈ obs → ρ' o = some k → ρ' o' = some k' → k.b = k'.b → False := by
            intro o o' c c' k k' hm hs hm' hk hk' hb
            have hn' : o' ∈ namesOf obs := List.mem_map.2 ⟨_, hm', rfl⟩
            rw [r1 o (inl _ hm)] at hk
            rw [r2 o' hn'] at hk'
            obtain ⟨q, d, k2, g1, g2, g3, g4, g5⟩ := ownblk o' k' hn' hk'
            have := h.inj o q c d k k2 (hlo _ hm) g2 hs g3 hk g4 (hb.trans g5.symm)
            subst this
            exact dis _ g1 _ (inl _ hm) rfl
          rcases List.mem_append.1 (os o c hc) with hm | hm <;> rcases List.mem_append.1 (os o' c' hc') with hm' | hm'
          · rw [r1 o (inl _ hm)] at hk
            rw [r1 o' (inl _ hm')] at hk'
            exact h.inj o o' c c' k k' (hlo _ hm) (hlo _ hm') hs hs' hk hk' hb
          · exact (mixed hm hs hm' hk hk' hb).elim
          · exact (mixed hm' hs' hm hk' hk hb.symm).elim
          · have e1 : o ∈ namesOf obs := List.mem_map.2 ⟨_, hm, rfl⟩
            have e2 : o' ∈ namesOf obs := List.mem_map.2 ⟨_, hm', rfl⟩
            rw [r2 o e1] at hk
            rw [r2 o' e2] at hk'
            have g1 := hpl o k e1 hk
            have g2 := hpl o' k' e2 hk'
            rw [hb] at g1
            exact pl_inj hnd g1 g2
        · intro o c k hc hs hk
          rcases List.mem_append.1 (os o c hc) with hm | hm
          · rw [r1 o (inl _ hm)] at hk
            exact h.own o c k (hlo _ hm) hs hk
          · have e1 : o ∈ namesOf obs := List.mem_map.2 ⟨_, hm, rfl⟩
            rw [r2 o e1] at hk
            obtain ⟨q, d, k2, g1, g2, g3, g4, g5⟩ := ownblk o k e1 hk
            rw [← g5]; exact h.own q d k2 g2 g3 g4
    · cases hn
  · cases hn

def Ex.x : Ex → Exit
  | .normal => .normal
  | .ret => .ret
  | .exit i => .exit i

theorem code_wp (hC : CxOK P C) (hm : P.follows .mixedOrders = true) {ann : Nat → Ann} (hfx : ∀ i p, p ∈ F0.fx → ∀ o, o ∈ p.1.names → o ∈ (ann i).objs) :
    ∀ {c : Code} {R : Type} {r : R} {s : St} {k : Ex → St → Option R} {a : Act} {w : World} {ρ : Nat → Option Loc} {Q : Exit → Act → World → Prop}, evalK C ann c s k = some r → Rep W0 F0 ρ s a w →
      (∀ e s' a' w' ρ', Rep W0 F0 ρ' s' a' w' → k e s' = some r → Q e.x a' w') → c.wp P Q a w := by
  intro c
  induction c with
  | skip => intro R r s k a w ρ Q hk h hQ; exact wp_skip (hQ .normal s a w ρ h hk)
  | label l => intro R r s k a w ρ Q hk h hQ; exact wp_label (hQ .normal s a w ρ h hk)
  | region id ops draw =>
    intro R r s k a w ρ Q hk h hQ
    exact region_wp hC hm (k := fun s' => k .normal s') (fun s' a' w' ρ' hr hk' => hQ .normal s' a' w' ρ' hr hk') h hk
  | seq x y ihx ihy =>
    intro R r s k a w ρ Q hk h hQ
    refine wp_seq (ihx hk h fun e s' a' w' ρ' hr hk' => ?_)
    cases e with
    | normal => exact ihy hk' hr hQ
    | ret => exact hQ .ret s' a' w' ρ' hr hk'
    | exit i => exact hQ (.exit i) s' a' w' ρ' hr hk'
  | cond c x y ihx ihy =>
    intro R r s k a w ρ Q hk h hQ
    simp only [evalK] at hk
    split at hk
    · rename_i t
      split at hk
      · rename_i b hb
        have ht := h.tm t
        rw [hb] at ht
        refine wp_cond (t := b) ht.bool_eq ?_
        cases b with
        | true => exact ihx hk (h.know ht) hQ
        | false => exact ihy hk (h.know ht) hQ
      · cases hk
    · rename_i b
      refine wp_cond (t := b) rfl ?_
      cases b with
      | true => exact ihx hk h hQ
      | false => exact ihy hk h hQ
    · cases hk
  | block id c ih =>
    intro R r s k a w ρ Q hk h hQ
    refine wp_block (ih hk h fun e s' a' w' ρ' hr hk' => ?_)
    cases e with
    | normal => exact hQ .normal s' a' w' ρ' hr hk'
    | ret => exact hQ .ret s' a' w' ρ' hr hk'
    | exit j =>
      show if j = id then _ else _
      dsimp only at hk'
      by_cases e : j = id
      · subst e
        simp at hk'
        rw [if_pos rfl]
        exact hQ .normal s' a' w' ρ' hr hk'
      · have : Nat.beq j id = false := by rw [Bool.eq_false_iff]; intro e'; exact e (Nat.eq_of_beq_eq_true e')
        simp only [this, cond_false] at hk'
        rw [if_neg e]
        exact hQ (.exit j) s' a' w' ρ' hr hk'
  | scope c ih =>
    intro R r s k a w ρ Q hk h hQ
    refine wp_scope_straight (ih hk h fun e s' a' w' ρ' hr hk' => ?_)
    cases e with
    | normal => exact hQ .normal s' a' w' ρ' hr hk'
    | ret => exact hQ .ret s' a' w' ρ' hr hk'
    | exit j => exact hQ (.exit j) s' a' w' ρ' hr hk'
  | loop c ih =>
    intro R r s k a w ρ Q hk h hQ
    simp only [evalK] at hk
    split at hk
    · rename_i s0 hs0
      obtain ⟨ρ0, h0⟩ := nrm_spec h (hfx _) hs0
      have key : ∀ (n : Nat) {s : St} {a : Act} {w : World} {ρ : Nat → Option Loc}, loopK (nrm (ann (firstRegion c))) (evalK C ann c) k n s = some r → Rep W0 F0 ρ s a w → Code.rounds P c Q n a w := by
        intro n
        induction n with
        | zero => intro s a w ρ hk h; simp [loopK] at hk
        | succ n ihn =>
          intro s a w ρ hk h
          rw [rounds_succ]
          refine ih hk h fun e s' a' w' ρ' hr hk' => ?_
          cases e with
          | normal =>
            dsimp only at hk'
            split at hk'
            · rename_i s2 hs2
              obtain ⟨ρ2, h2⟩ := nrm_spec hr (hfx _) hs2
              exact ihn hk' h2
            · cases hk'
          | ret => exact hQ .ret s' a' w' ρ' hr hk'
          | exit j => exact hQ (.exit j) s' a' w' ρ' hr hk'
      exact wp_loop_rounds _ (key _ hk h0)
    · cases hk
  | exit id => intro R r s k a w ρ Q hk h hQ; exact wp_exit (hQ (.exit id) s a w ρ h hk)
  | ret => intro R r s k a w ρ Q hk h hQ; exact wp_ret (hQ .ret s a w ρ h hk)
  | _ => intro R r s k a w ρ Q hk h hQ; simp [evalK] at hk
end
end Go.Ev
