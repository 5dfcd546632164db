/- A call of a function that keeps its promise. -/
import Derived.Test.YtfdgkmligadcnaaEv20
set_option linter.unusedVariables false
set_option linter.unusedSimpArgs false
namespace Go.Ev
open Go

theorem memN_iff {i : Nat} : ∀ {l : List Nat}, memN i l = true ↔ i ∈ l := by
  intro l
  induction l with
  | nil => simp [memN]
  | cons j r ih =>
    simp only [memN, Bool.or_eq_true, ih, List.mem_cons]
    constructor
    · rintro (h | h)
      · exact .inl (Nat.eq_of_beq_eq_true h).symm
      · exact .inr h
    · rintro (h | h)
      · exact .inl (by subst h; simp)
      · exact .inr h
theorem memN_false {i : Nat} {l : List Nat} : memN i l = false ↔ i ∉ l := by
  rw [← memN_iff]; simp
theorem nodupN_iff : ∀ {l : List Nat}, nodupN l = true ↔ l.Nodup := by
  intro l
  induction l with
  | nil => simp [nodupN]
  | cons j r ih => simp [nodupN, ih, memN_false]
theorem apartN_spec : ∀ {l m : List Nat}, apartN l m = true → ∀ i, i ∈ l → i ∉ m := by
  intro l m
  induction l with
  | nil => intro _ i hi; simp at hi
  | cons j r ih =>
    intro h i hi
    simp only [apartN, Bool.and_eq_true, Bool.not_eq_true'] at h
    rcases List.mem_cons.1 hi with rfl | hi
    · exact memN_false.1 h.1
    · exact ih h.2 i hi
theorem mem_without {i : Nat} : ∀ {l m : List Nat}, i ∈ without l m ↔ i ∈ l ∧ i ∉ m := by
  intro l m
  induction l with
  | nil => simp [without]
  | cons j r ih =>
    simp only [without]
    cases hj : memN j m with
    | true =>
      simp only [cond_true, ih, List.mem_cons]
      constructor
      · rintro ⟨h1, h2⟩; exact ⟨.inr h1, h2⟩
      · rintro ⟨h1 | h1, h2⟩
        · subst h1; exact absurd (memN_iff.1 hj) h2
        · exact ⟨h1, h2⟩
    | false =>
      simp only [cond_false, ih, List.mem_cons]
      constructor
      · rintro (h1 | ⟨h1, h2⟩)
        · subst h1; exact ⟨.inl rfl, memN_false.1 hj⟩
        · exact ⟨.inr h1, h2⟩
      · rintro ⟨h1 | h1, h2⟩
        · exact .inl h1
        · exact .inr ⟨h1, h2⟩

section
variable {P : Program} {C : Cx} {W0 : World} {F0 : Base} {ρ : Nat → Option Loc} {s s' : St} {a : Act} {w : World}

theorem out_wrAll {α : Type} {r : α} : ∀ {ws : List (Nat × AV)} {p : Pg α} {s : St}, (namesOf ws).Nodup → (wrAll ws p).Out s r s' →
    ∃ s1, p.Out s1 r s' ∧ s1.n = s.n ∧ (∀ t, s1.t t = s.t t) ∧ (∀ q, q ∈ ws → s1.o q.1 = some q.2 ∧ ∃ d, s.o q.1 = some d ∧ d.dead = false ∧ q.2.sh = d.sh) ∧ ∀ o, o ∉ namesOf ws → s1.o o = s.o o := by
  intro ws
  induction ws with
  | nil => intro p s _ h; exact ⟨s, h, rfl, fun _ => rfl, by simp, fun _ _ => rfl⟩
  | cons q ws ih =>
    obtain ⟨o, c⟩ := q
    intro p s hn h
    simp only [namesOf, List.map_cons, List.nodup_cons] at hn
    simp only [wrAll] at h
    obtain ⟨d, hd, hdd, h⟩ := h
    dsimp only at h
    split at h
    · rename_i hsh
      obtain ⟨_, h⟩ := h
      obtain ⟨s1, g1, g2, g3, g4, g5⟩ := ih hn.2 h
      have hno : ∀ q, q ∈ ws → o ≠ q.1 := fun q hq e => hn.1 (by rw [e]; exact List.mem_map.2 ⟨q, hq, rfl⟩)
      refine ⟨s1, g1, g2, g3, fun q hq => ?_, fun x hx => ?_⟩
      · rcases List.mem_cons.1 hq with rfl | hq
        · refine ⟨?_, d, hd, hdd, hsh⟩
          rw [g5 o hn.1, St.setO_o, if_pos rfl]
        · obtain ⟨h1, d', h2, h3, h4⟩ := g4 q hq
          rw [St.setO_o, if_neg (hno q hq)] at h2
          exact ⟨h1, d', h2, h3, h4⟩
      · simp only [namesOf, List.map_cons, List.mem_cons, not_or] at hx
        rw [g5 x hx.2, St.setO_o, if_neg (Ne.symm hx.1)]
    · exact h.elim

theorem out_killAll {α : Type} {r : α} : ∀ {ks : List Nat} {p : Pg α} {s : St}, (killAll ks p).Out s r s' →
    ∃ s1, p.Out s1 r s' ∧ s1.n = s.n ∧ (∀ t, s1.t t = s.t t) ∧ (∀ o, o ∈ ks → s1.o o = some .top ∧ ∃ d, s.o o = some d) ∧ ∀ o, o ∉ ks → s1.o o = s.o o := by
  intro ks
  induction ks with
  | nil => intro p s h; exact ⟨s, h, rfl, fun _ => rfl, by simp, fun _ _ => rfl⟩
  | cons k ks ih =>
    intro p s h
    obtain ⟨⟨d, hd⟩, h⟩ := h
    obtain ⟨s1, g1, g2, g3, g4, g5⟩ := ih h
    refine ⟨s1, g1, g2, g3, fun o ho => ?_, fun x hx => ?_⟩
    · by_cases e : o ∈ ks
      · obtain ⟨h1, d', h2⟩ := g4 o e
        refine ⟨h1, ?_⟩
        rw [St.setO_o] at h2
        by_cases e2 : k = o
        · subst e2; exact ⟨d, hd⟩
        · rw [if_neg e2] at h2; exact ⟨d', h2⟩
      · have e2 : o = k := (List.mem_cons.1 ho).resolve_right e
        subst e2
        exact ⟨by rw [g5 o e, St.setO_o, if_pos rfl], d, hd⟩
    · simp only [List.mem_cons, not_or] at hx
      rw [g5 x hx.2, St.setO_o, if_neg (Ne.symm hx.1)]

theorem out_newAll {α : Type} {r : α} : ∀ {l : List (Nat × AV)} {p : Pg α} {s : St}, (newAll l p).Out s r s' →
    ∃ s1, p.Out s1 r s' ∧ s1.n = s.n ∧ (∀ t, s1.t t = s.t t) ∧ (∀ q, q ∈ l → s1.o q.1 = some q.2 ∧ s.o q.1 = none) ∧ ∀ o, o ∉ namesOf l → s1.o o = s.o o := by
  intro l
  induction l with
  | nil => intro p s h; exact ⟨s, h, rfl, fun _ => rfl, by simp, fun _ _ => rfl⟩
  | cons q l ih =>
    obtain ⟨o, c⟩ := q
    intro p s h
    simp only [newAll] at h
    obtain ⟨hn, h⟩ := h
    obtain ⟨s1, g1, g2, g3, g4, g5⟩ := ih h
    have hno : o ∉ namesOf l := fun hm => by
      obtain ⟨q, hq, e⟩ := List.mem_map.1 hm
      have := (g4 q hq).2
      rw [St.setO_o, if_pos e.symm] at this
      cases this
    refine ⟨s1, g1, g2, g3, fun q hq => ?_, fun x hx => ?_⟩
    · rcases List.mem_cons.1 hq with rfl | hq
      · exact ⟨by rw [g5 o hno, St.setO_o, if_pos rfl], hn⟩
      · obtain ⟨h1, h2⟩ := g4 q hq
        refine ⟨h1, ?_⟩
        rw [St.setO_o] at h2
        split at h2
        · cases h2
        · exact h2
    · simp only [namesOf, List.map_cons, List.mem_cons, not_or] at hx
      rw [g5 x hx.2, St.setO_o, if_neg (Ne.symm hx.1)]

/-- after an operation the state says so much of every next frame and world -/
def Leads (P : Program) (W0 : World) (F0 : Base) (o : Oper) (a : Act) (w : World) (v : AV) (s' : St) : Prop :=
  ∀ (next : Act → World → Prop) (Q : Exit → Act → World → Prop), (∀ u w' ρ', Rep W0 F0 ρ' s' a w' → Val ⟨w', s'.o, ρ'⟩ v u → next (a.put o.dst u) w') → o.wp P a w next Q

theorem Gives.leads {o : Oper} {v : AV} (h : Gives P W0 F0 o a w v s') : Leads P W0 F0 o a w v s' := by
  intro next Q hn
  obtain ⟨u, w', ρ', h1, h2, h3⟩ := h
  unfold Oper.wp
  rcases h1 with h1 | ⟨h1, rfl⟩
  · rw [h1]; exact hn u w' ρ' h2 h3
  · rw [h1]; exact hn _ w' ρ' h2 h3

theorem pl_inj : ∀ {pl : List (Nat × Nat)}, (pl.map (·.2)).Nodup → ∀ {o o' b : Nat}, (o, b) ∈ pl → (o', b) ∈ pl → o = o' := by
  intro pl
  induction pl with
  | nil => intro _ o o' b h; simp at h
  | cons q pl ih =>
    intro hn o o' b h h'
    simp only [List.map_cons, List.nodup_cons] at hn
    rcases List.mem_cons.1 h with h | h <;> rcases List.mem_cons.1 h' with h' | h'
    · exact congrArg Prod.fst (h.trans h'.symm)
    · exact absurd (List.mem_map.2 ⟨_, h', by rw [← h]⟩) hn.1
    · exact absurd (List.mem_map.2 ⟨_, h, by rw [← h']⟩) hn.1
    · exact ih hn.2 h h'

theorem vals_list {E : Env} : ∀ {vs : List AV} {us : List Value}, Vals E vs us → ∀ p, p ∈ fxOf (listAV vs) us → Val E p.1 p.2 := by
  intro vs
  induction vs with
  | nil => intro us _ p hp; simp [listAV, fxOf] at hp
  | cons v vs ih =>
    intro us h p hp
    obtain ⟨u, r, rfl, h1, h2⟩ := h
    simp only [listAV, fxOf, List.mem_cons] at hp
    rcases hp with rfl | hp
    · exact h1
    · exact ih h2 p hp
theorem args_len {F : Nat → Prop} : ∀ {sp : SP} {x : sp.den} {us : List Value} {bs : List Nat}, Args w F sp x us bs → us.length = sp.len := by
  intro sp
  induction sp with
  | nl => intro x us bs h; rw [h.1]; rfl
  | cons A B iha ihb => intro x us bs h; obtain ⟨u, r, bs1, bs2, rfl, _, _, h2⟩ := h; simp [SP.len, ihb h2]
  | _ => intro x us bs h; exact h.elim
theorem parOk_isList : ∀ {sp : SP}, sp.parOk = true → sp.isList = true := by
  intro sp
  induction sp with
  | nl => intro _; rfl
  | cons A B iha ihb => intro h; simp only [SP.parOk, Bool.and_eq_true] at h; exact ihb h.2
  | _ => intro h; simp [SP.parOk] at h

theorem val_res {E : Env} : ∀ {c : AV} {us : List Value}, ValT E c us → Val E (resAV c) (retV us) := by
  intro c us h
  cases c with
  | cons v r =>
    obtain ⟨u, r', rfl, h1, h2⟩ := h
    cases r with
    | nl =>
      have h2 : r' = [] := h2
      subst h2
      exact .inl h1
    | cons v2 r2 =>
      obtain ⟨u2, r2', rfl, h3, h4⟩ := h2
      exact .inr ⟨_, _, rfl, rfl, ⟨u, _, rfl, h1, u2, r2', rfl, h3, h4⟩⟩
    | _ => exact h2.elim
  | nl =>
    have h : us = [] := h
    subst h
    exact .inr ⟨_, _, rfl, rfl, rfl⟩
  | _ => exact h.elim

theorem out_bif' {α : Type} {c : Bool} {p : Pg α} {v : α} (h : (bif c then p else .fail).Out s v s') : c = true ∧ p.Out s v s' := by
  cases c with
  | true => exact ⟨rfl, h⟩
  | false => exact h.elim

theorem run_execOp_call {o : Oper} {c : Call} {f : FuncId} (hop : o.op = .call c) (hcal : c.callee = .value (.func f)) : execOp a.eval o = callFunc f (c.args.map a.eval) := by
  obtain ⟨dst, op, type, pos, after, guard⟩ := o
  obtain ⟨callee, args, argTypes⟩ := c
  simp only at hop hcal
  subst hop hcal
  have : execOp a.eval { dst, op := .call { callee := .value (.func f), args := args, argTypes := argTypes }, type := type, pos, after, guard } = callFunc f (#[] ++ args.map a.eval ++ #[]) := rfl
  rw [this]; simp

theorem leads_call {f : FuncId} {g : Sig} (hM : Meets P f g) (h : Rep W0 F0 ρ s a w) {o : Oper} {c : Call} (hop : o.op = .call c) (hcal : c.callee = .value (.func f)) {vs : List AV} {d : Nat} {v : AV}
    (hvs : Vals ⟨w, s.o, ρ⟩ vs (c.args.toList.map a.eval)) (ho : (callPg g vs d).Out s v s') : Leads P W0 F0 o a w v s' := by
  intro next Q hnext
  unfold callPg at ho
  obtain ⟨hok, ho⟩ := out_bif' ho
  simp only [Sig.ok, Bool.and_eq_true] at hok
  obtain ⟨⟨hrsl, hpar⟩, hrl⟩ := hok
  obtain ⟨x, own, ro, bs, ho, hlive, hsub, hargs⟩ := exA_out h (parOk_isList hpar) hvs ho
  obtain ⟨hn, ho⟩ := out_bif' ho
  simp only [Bool.and_eq_true] at hn
  have hnd := nodupN_iff.1 hn.1
  have hap := apartN_spec hn.2
  obtain ⟨y, hy, ho⟩ := ho
  -- blocks of the function's
  have hbs : ∀ b, b ∈ bs → ∃ q c l, q ∈ own ∧ s.o q = some c ∧ c.sh ≠ .bad ∧ ρ q = some l ∧ l.b = b := by
    intro b hb
    obtain ⟨q, hq, e⟩ := List.mem_filterMap.1 (hsub.subset hb)
    obtain ⟨c, hc, hcs⟩ := hlive q hq
    cases hl : ρ q with
    | none => rw [hl] at e; simp at e
    | some l => rw [hl] at e; exact ⟨q, c, l, hq, hc, hcs, hl, by simpa using e⟩
  have hbn : bs.Nodup := by
    refine hsub.nodup ?_
    have : ∀ {l : List Nat}, l.Nodup → (∀ q ∈ l, ∃ c, s.o q = some c ∧ c.sh ≠ .bad) → (blk ρ l).Nodup := by
      intro l
      induction l with
      | nil => intro _ _; simp [blk]
      | cons q l ih =>
        intro hn hl
        simp only [List.nodup_cons] at hn
        have ih' := ih hn.2 fun q hq => hl q (List.mem_cons_of_mem _ hq)
        cases hq : ρ q with
        | none => simpa [blk, hq] using ih'
        | some k =>
          rw [blk_cons hq]
          refine List.nodup_cons.2 ⟨fun hm => ?_, ih'⟩
          obtain ⟨q', hq', e⟩ := List.mem_filterMap.1 hm
          obtain ⟨c, hc, hcs⟩ := hl q (List.mem_cons_self ..)
          obtain ⟨c', hc', hcs'⟩ := hl q' (List.mem_cons_of_mem _ hq')
          cases hk' : ρ q' with
          | none => rw [hk'] at e; simp at e
          | some k' =>
            rw [hk'] at e
            have := h.inj q q' c c' k k' hc hc' hcs hcs' hq hk' (by simpa using e.symm)
            subst this
            exact hn.1 hq'
    exact this hnd hlive
  have hout : Outside s ρ ro (· ∈ bs) := by
    intro b hb
    obtain ⟨q, c, l, hq, h1, h2, h3, h4⟩ := hbs b hb
    exact ⟨q, c, l, hap q hq, h1, h2, h3, h4⟩
  have hA := hargs _ (.inr hout)
  have hcall := hM w x _ bs hbn hA y hy
  have hlen := args_len hA
  have hus : (c.args.toList.map a.eval).toArray = c.args.map a.eval := by rw [← Array.toList_map]
  rw [hus] at hcall
  -- what the caller finds
  have main : ∀ u w', (∃ rs bs1 bs2, Found g x (c.args.toList.map a.eval) bs w y u w' rs bs1 bs2) → next (a.put o.dst u) w' := by
    rintro u w' ⟨rs, bs1, bs2, hF⟩
    obtain ⟨ws, l, n, τ, pl, ho, hB⟩ := reO_out (ρ := ρ) (wold := w) (s := s) hpar hF.outs hlen (vals_list hvs) ho
    obtain ⟨cv, l', n', τ', pl', ho, hL, hLE⟩ := inA_out hrl hF.rs ho
    obtain ⟨hnames, ho⟩ := out_bif' ho
    have hnames := nodupN_iff.1 hnames
    rw [List.nodup_append] at hnames
    obtain ⟨nws, nrest, dis1⟩ := hnames
    rw [List.nodup_append] at nrest
    obtain ⟨nks, nnew, dis2⟩ := nrest
    rw [List.nodup_append] at nnew
    obtain ⟨nl1, nl2, dis3⟩ := nnew
    obtain ⟨s1, ho, n1, t1, w1, o1⟩ := out_wrAll nws ho
    obtain ⟨s2, ho, n2, t2, w2, o2⟩ := out_killAll ho
    obtain ⟨s3, ho, n3, t3, w3, o3⟩ := out_newAll ho
    obtain ⟨rfl, rfl⟩ := ho
    -- the names
    let N : Nat → Prop := fun q => q ∈ namesOf (l ++ l')
    have hNl : ∀ q, q ∈ namesOf (l ++ l') ↔ q ∈ namesOf l ∨ q ∈ namesOf l' := by intro q; simp [namesOf]
    have hws_not : ∀ q, q ∈ namesOf ws → q ∉ without own (namesOf ws) ∧ q ∉ namesOf (l ++ l') := by
      intro q hq
      refine ⟨fun hk => (mem_without.1 hk).2 hq, fun hk => ?_⟩
      have := dis1 q hq
      rcases (hNl q).1 hk with hk | hk
      · exact this q (List.mem_append_right _ (List.mem_append_left _ hk)) rfl
      · exact this q (List.mem_append_right _ (List.mem_append_right _ hk)) rfl
    have hk_not : ∀ q, q ∈ without own (namesOf ws) → q ∉ namesOf (l ++ l') := by
      intro q hq hk
      rcases (hNl q).1 hk with hk | hk
      · exact dis2 q hq q (List.mem_append_left _ hk) rfl
      · exact dis2 q hq q (List.mem_append_right _ hk) rfl
    -- the new state's objects
    have ows : ∀ q, q ∈ ws → s'.o q.1 = some q.2 ∧ ∃ d, s.o q.1 = some d ∧ d.dead = false ∧ q.2.sh = d.sh := by
      intro q hq
      have hm : q.1 ∈ namesOf ws := List.mem_map.2 ⟨q, hq, rfl⟩
      obtain ⟨g1, g2⟩ := hws_not _ hm
      exact ⟨by rw [o3 _ g2, o2 _ g1]; exact (w1 q hq).1, (w1 q hq).2⟩
    have oks : ∀ q, q ∈ without own (namesOf ws) → s'.o q = some .top := by
      intro q hq
      rw [o3 _ (hk_not q hq)]; exact (w2 q hq).1
    have onew : ∀ q, q ∈ l ++ l' → s'.o q.1 = some q.2 ∧ s.o q.1 = none := by
      intro q hq
      refine ⟨(w3 q hq).1, ?_⟩
      have hm : q.1 ∈ namesOf (l ++ l') := List.mem_map.2 ⟨q, hq, rfl⟩
      have g1 : q.1 ∉ without own (namesOf ws) := fun hk => hk_not _ hk hm
      have g2 : q.1 ∉ namesOf ws := fun hk => (hws_not _ hk).2 hm
      have := (w3 q hq).2
      rw [o2 _ g1, o1 _ g2] at this
      exact this
    have ooth : ∀ q, q ∉ namesOf ws → q ∉ without own (namesOf ws) → q ∉ namesOf (l ++ l') → s'.o q = s.o q := by
      intro q g1 g2 g3
      rw [o3 _ g3, o2 _ g2, o1 _ g1]
    have htm : ∀ t, s'.t t = s.t t := fun t => by rw [t3, t2, t1]
    -- where the new objects lie
    let ρ' : Nat → Option Loc := fun q => if memN q (namesOf (l ++ l')) then (if q < n then τ q else τ' q) else ρ q
    have rnew : ∀ q, q ∈ namesOf (l ++ l') → ρ' q = if q < n then τ q else τ' q := fun q hq => by
      show (if memN q (namesOf (l ++ l')) then _ else _) = _
      rw [if_pos (memN_iff.2 hq)]
    have rold : ∀ q, q ∉ namesOf (l ++ l') → ρ' q = ρ q := fun q hq => by
      show (if memN q (namesOf (l ++ l')) then _ else _) = _
      rw [if_neg (by rw [memN_false.2 hq]; simp)]
    have rl : ∀ q, q ∈ l → ρ' q.1 = τ q.1 := fun q hq => by
      rw [rnew _ ((hNl _).2 (.inl (List.mem_map.2 ⟨q, hq, rfl⟩))), if_pos (hB.mem q hq).2]
    have rl' : ∀ q, q ∈ l' → ρ' q.1 = τ' q.1 := fun q hq => by
      have := (hL.mem q hq).1
      rw [rnew _ ((hNl _).2 (.inr (List.mem_map.2 ⟨q, hq, rfl⟩))), if_neg (by omega)]
    have rws : ∀ q, q ∈ ws → ρ' q.1 = ρ q.1 := fun q hq => rold _ (hws_not _ (List.mem_map.2 ⟨q, hq, rfl⟩)).2
    have wlive : ∀ p, p ∈ ws → ∀ d, s.o p.1 = some d → d.sh ≠ .bad := by
      intro p hp d hd
      obtain ⟨_, d', h1, h2, _⟩ := ows p hp
      rw [h1] at hd; cases hd
      exact AV.dead_sh h2
    let E' : Env := ⟨w', s'.o, ρ'⟩
    have onl : OnE E' l τ := fun p hp => ⟨(onew p (List.mem_append_left _ hp)).1, rl p hp⟩
    have onl' : OnE E' l' τ' := fun p hp => ⟨(onew p (List.mem_append_right _ hp)).1, rl' p hp⟩
    have onws : OnE E' ws ρ := fun p hp => ⟨(ows p hp).1, rws p hp⟩
    obtain ⟨okl, okws⟩ := hB.ok E' rfl onl onws wlive
    obtain ⟨hval, okl'⟩ := hLE E' rfl onl' (.inl hrsl)
    -- pairs of names and blocks
    have plsub : ((pl' ++ pl).map (·.2)).Sublist (bs1 ++ bs2) := by rw [List.map_append]; exact hL.sub.append hB.sub
    have plnd := plsub.nodup hF.nodup
    have plnew : ∀ q k, q ∈ namesOf (l ++ l') → ρ' q = some k → (q, k.b) ∈ pl' ++ pl := by
      intro q k hq hk
      rcases (hNl q).1 hq with hq1 | hq1
      · obtain ⟨p, hp, rfl⟩ := List.mem_map.1 hq1
        rw [rl p hp] at hk
        exact List.mem_append_right _ (hB.blk _ k hq1 hk)
      · obtain ⟨p, hp, rfl⟩ := List.mem_map.1 hq1
        rw [rl' p hp] at hk
        exact List.mem_append_left _ (hL.blk _ k hq1 hk)
    have plold : ∀ q, q ∈ ws → ∃ k, ρ q.1 = some k ∧ (q.1, k.b) ∈ pl' ++ pl := by
      intro q hq
      obtain ⟨k, h1, h2⟩ := hB.old q hq (wlive q hq)
      exact ⟨k, h1, List.mem_append_right _ h2⟩
    have plfrom : ∀ q b, (q, b) ∈ pl' ++ pl → b ∈ bs ∨ w.heap.size ≤ b := fun q b hq => hF.from' b (plsub.subset (List.mem_map.2 ⟨_, hq, rfl⟩))
    -- the objects that live on
    have alive : ∀ q c, s'.o q = some c → c.sh ≠ .bad → (q ∈ namesOf (l ++ l') ∧ (q, c) ∈ l ++ l') ∨ ((q, c) ∈ ws ∧ q ∉ namesOf (l ++ l')) ∨ (q ∉ own ∧ q ∉ namesOf ws ∧ q ∉ namesOf (l ++ l') ∧ s.o q = some c) := by
      intro q c hq hc
      by_cases g1 : q ∈ namesOf (l ++ l')
      · obtain ⟨p, hp, rfl⟩ := List.mem_map.1 g1
        have := (onew p hp).1
        rw [this] at hq; cases hq
        exact .inl ⟨g1, hp⟩
      · by_cases g2 : q ∈ namesOf ws
        · obtain ⟨p, hp, rfl⟩ := List.mem_map.1 g2
          have := (ows p hp).1
          rw [this] at hq; cases hq
          exact .inr (.inl ⟨hp, g1⟩)
        · by_cases g3 : q ∈ without own (namesOf ws)
          · rw [oks q g3] at hq; cases hq; simp [AV.sh] at hc
          · have g4 : q ∉ own := fun hk => g3 (mem_without.2 ⟨hk, g2⟩)
            rw [ooth q g2 g3 g1] at hq
            exact .inr (.inr ⟨g4, g2, g1, hq⟩)
    have oldblk : ∀ q c k, q ∉ own → s.o q = some c → c.sh ≠ .bad → ρ q = some k → k.b ∉ bs := by
      intro q c k hq hc hcs hk hb
      obtain ⟨q', c', k', h1, h2, h3, h4, h5⟩ := hbs _ hb
      have := h.inj q q' c c' k k' hc h2 hcs h3 hk h4 h5.symm
      subst this
      exact hq h1
    have hExt : Ext ⟨w, s.o, ρ⟩ E' := by
      refine ⟨fun b ob hb hob => ?_, fun q c hq => ?_⟩
      · have hlt : b < w.heap.size := (Array.getElem?_eq_some_iff.1 hob).1
        have hnb : b ∉ bs := fun hm => by
          obtain ⟨q, c, k, _, h2, h3, h4, h5⟩ := hbs b hm
          exact hb ⟨q, c, k, h2, h3, h4, h5⟩
        refine ⟨(hF.fr.block b hlt hnb).trans hob, ?_⟩
        rintro ⟨q, c, k, hq, hc, hk, rfl⟩
        have hq : s'.o q = some c := hq
        have hk : ρ' q = some k := hk
        rcases alive q c hq hc with ⟨g1, g2⟩ | ⟨g1, g2⟩ | ⟨g1, g2, g3, g4⟩
        · rcases plfrom q _ (plnew q k g1 hk) with e | e
          · exact hnb e
          · omega
        · obtain ⟨_, d, e1, e2, _⟩ := ows _ g1
          rw [rold q g2] at hk
          exact hb ⟨q, d, k, e1, AV.dead_sh e2, hk, rfl⟩
        · rw [rold q g3] at hk
          exact hb ⟨q, c, k, g4, hc, hk, rfl⟩
      · have hq : s.o q = some c := hq
        have keep : ∀ l cells T fr, ρ q = some l → w.heap[l.b]? = some (.cells cells T fr) → ∃ cells' fr', w'.heap[l.b]? = some (.cells cells' T fr') ∧ cells.size ≤ cells'.size := fun l cells T fr _ hh => hF.fr.keep _ _ _ _ hh
        have g1 : q ∉ namesOf (l ++ l') := fun hm => by
          obtain ⟨p, hp, rfl⟩ := List.mem_map.1 hm
          have := (onew p hp).2
          rw [this] at hq; cases hq
        by_cases g2 : q ∈ namesOf ws
        · obtain ⟨p, hp, rfl⟩ := List.mem_map.1 g2
          obtain ⟨e0, d, e1, e2, e3⟩ := ows p hp
          rw [e1] at hq; cases hq
          exact ⟨p.2, e0, .inr ⟨AV.dead_sh e2, e3, rws p hp, keep⟩⟩
        · by_cases g3 : q ∈ without own (namesOf ws)
          · exact ⟨.top, oks q g3, .inl rfl⟩
          · refine ⟨c, (ooth q g2 g3 g1).trans hq, ?_⟩
            by_cases hb : c.sh = .bad
            · exact .inl hb
            · exact .inr ⟨hb, rfl, rold q g1, keep⟩
    refine hnext u w' ρ' ⟨?_, h.defers, fun t => ?_, fun q c hq hc => ?_, ?_, ?_, ?_, fun p hp => hExt.val (h.fx p hp)⟩ (by rw [hF.ret]; exact val_res hval)
    · rw [n3, n2, n1]; exact h.size
    · rw [htm]; exact hExt.val (h.tm t)
    · rcases alive q c hq hc with ⟨g1, g2⟩ | ⟨g1, g2⟩ | ⟨g1, g2, g3, g4⟩
      · rcases List.mem_append.1 g2 with g2 | g2
        · exact okl _ g2
        · exact okl' _ g2
      · exact okws _ g1
      · rcases h.ob q c g4 hc with ⟨k, cells, T, fr, cs, e1, e2, e3, e4, e5, e6⟩ | e
        · have hlt : k.b < w.heap.size := (Array.getElem?_eq_some_iff.1 e2).1
          exact .inl ⟨k, cells, T, fr, cs, (rold q g3).trans e1, (hF.fr.block _ hlt (oldblk q c k g1 g4 hc e1)).trans e2, hExt.ce e3, e4, e5, e6⟩
        · exact .inr ⟨(rold q g3).trans e.1, e.2⟩
    · intro q q' c c' k k' hq hq' hc hc' hk hk' hbb
      have new_old : ∀ {q q' : Nat} {c c' : AV} {k k' : Loc}, q ∈ namesOf (l ++ l') → ρ' q = some k → q' ∉ own → q' ∉ namesOf (l ++ l') → s.o q' = some c' → c'.sh ≠ .bad → ρ' q' = some k' → k.b = k'.b → False := by
        intro q q' c c' k k' g1 hk f1 f3 f4 hc' hk' hbb
        rw [rold q' f3] at hk'
        rcases plfrom q _ (plnew q k g1 hk) with e | e
        · exact oldblk q' c' k' f1 f4 hc' hk' (hbb ▸ e)
        · have := h.dom q' c' k' f4 hc' hk'
          omega
      rcases alive q c hq hc with ⟨g1, g2⟩ | ⟨g1, g2⟩ | ⟨g1, g2, g3, g4⟩ <;> rcases alive q' c' hq' hc' with ⟨f1, f2⟩ | ⟨f1, f2⟩ | ⟨f1, f2, f3, f4⟩
      · have e1 := plnew q k g1 hk
        have e2 := plnew q' k' f1 hk'
        rw [hbb] at e1
        exact pl_inj plnd e1 e2
      · have e1 := plnew q k g1 hk
        obtain ⟨k2, e2, e3⟩ := plold _ f1
        rw [rold q' f2] at hk'
        have : k2 = k' := by
          have e2 : ρ q' = some k2 := e2
          rw [e2] at hk'; exact Option.some.inj hk'
        subst this
        rw [hbb] at e1
        exact pl_inj plnd e1 e3
      · exact (new_old (c := c) g1 hk f1 f3 f4 hc' hk' hbb).elim
      · have e1 := plnew q' k' f1 hk'
        obtain ⟨k2, e2, e3⟩ := plold _ g1
        rw [rold q g2] at hk
        have : k2 = k := by
          have e2 : ρ q = some k2 := e2
          rw [e2] at hk; exact Option.some.inj hk
        subst this
        rw [← hbb] at e1
        exact pl_inj plnd e3 e1
      · rw [rold q g2] at hk; rw [rold q' f2] at hk'
        obtain ⟨_, d, e1, e2, _⟩ := ows _ g1
        obtain ⟨_, d', e1', e2', _⟩ := ows _ f1
        exact h.inj q q' d d' k k' e1 e1' (AV.dead_sh e2) (AV.dead_sh e2') hk hk' hbb
      · rw [rold q g2] at hk; rw [rold q' f3] at hk'
        obtain ⟨_, d, e1, e2, _⟩ := ows _ g1
        exact h.inj q q' d c' k k' e1 f4 (AV.dead_sh e2) hc' hk hk' hbb
      · exact (new_old (c := c') f1 hk' g1 g3 g4 hc hk hbb.symm).elim
      · rw [rold q g3] at hk; rw [rold q' f2] at hk'
        obtain ⟨_, d', e1', e2', _⟩ := ows _ f1
        exact h.inj q q' c d' k k' g4 e1' hc (AV.dead_sh e2') hk hk' hbb
      · rw [rold q g3] at hk; rw [rold q' f3] at hk'
        exact h.inj q q' c c' k k' g4 f4 hc hc' hk hk' hbb
    · intro q c k hq hc hk
      rcases alive q c hq hc with ⟨g1, g2⟩ | ⟨g1, g2⟩ | ⟨g1, g2, g3, g4⟩
      · rcases plfrom q _ (plnew q k g1 hk) with e | e
        · obtain ⟨q', c', k', _, e2, e3, e4, e5⟩ := hbs _ e
          rw [← e5]; exact h.own q' c' k' e2 e3 e4
        · right; have := h.fr.size; omega
      · obtain ⟨_, d, e1, e2, _⟩ := ows _ g1
        rw [rold q g2] at hk
        exact h.own q d k e1 (AV.dead_sh e2) hk
      · rw [rold q g3] at hk
        exact h.own q c k g4 hc hk
    · refine ⟨hF.fr.os.trans h.fr.os, hF.fr.tape.trans h.fr.tape, hF.fr.output.trans h.fr.output, Nat.le_trans h.fr.size hF.fr.size, fun b hb hnF => ?_, fun b cells T fr hb => ?_⟩
      · have hnb : b ∉ bs := fun hm => by
          obtain ⟨q, c, k, _, h2, h3, h4, h5⟩ := hbs b hm
          rcases h.own q c k h2 h3 h4 with e | e
          · rw [h5] at e; exact hnF e
          · rw [h5] at e; omega
        rw [hF.fr.block b (Nat.lt_of_lt_of_le hb h.fr.size) hnb]
        exact h.fr.block b hb hnF
      · obtain ⟨c1, f1, e1, e2⟩ := h.fr.keep b cells T fr hb
        obtain ⟨c2, f2, e3, e4⟩ := hF.fr.keep b c1 T f1 e1
        exact ⟨c2, f2, e3, by omega⟩
  unfold Oper.wp
  rw [run_execOp_call hop hcal]
  unfold CallsF at hcall
  generalize (callFunc f (c.args.map a.eval)).run P w = res at hcall ⊢
  cases res with
  | halt e w' => exact hcall.elim
  | ok nx w' =>
    cases nx with
    | value u => exact main u w' hcall
    | enter f' args => 
      exact Calls.mono hcall fun e w'' he => by
        cases e with
        | returned u => exact main u w'' he
        | _ => exact he.elim
    | _ => exact hcall.elim
end
end Go.Ev
