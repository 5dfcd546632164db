/- A function whose evaluation is its model keeps the promise. -/
import Derived.Test.YtfdgkmligadcnaaEv25
set_option linter.unusedVariables false
set_option linter.unusedSimpArgs false
namespace Go.Ev
open Go

theorem ce_names {E : Env} : ∀ {c : AV} {cs : List Value}, Ce E c cs → ∀ o, o ∈ c.names → ∃ d, E.s o = some d := by
  intro c
  induction c with
  | ref o p => intro cs k q hq; obtain ⟨a, hc, d, hd, _⟩ := k; simp [AV.names] at hq; subst hq; exact ⟨d, hd⟩
  | view o p off len => intro cs k q hq; obtain ⟨v, hc, n, a, cap, hv, hn, hcap, d, hd, _⟩ := k; simp [AV.names] at hq; subst hq; exact ⟨d, hd⟩
  | full o => intro cs k q hq; obtain ⟨v, hc, n, a, cap, hv, hcap, d, hd, _⟩ := k; simp [AV.names] at hq; subst hq; exact ⟨d, hd⟩
  | cons a b iha ihb =>
    intro cs k q hq
    simp only [AV.names, List.mem_append] at hq
    exact hq.elim (iha k.1 q) (ihb k.2 q)
  | iface T v ih => intro cs k q hq; obtain ⟨u, hc, hs, k⟩ := k; exact ih k q hq
  | tup c => intro cs k; exact k.elim
  | _ => intro cs k q hq; simp [AV.names] at hq

theorem valT_fx {E : Env} : ∀ {c : AV} {us : List Value}, ValT E c us → ∀ p, p ∈ fxOf c us → Val1 E p.1 p.2 := by
  intro c
  induction c with
  | cons v r ihv ihr =>
    intro us k p hp
    obtain ⟨u, r', rfl, h1, h2⟩ := k
    simp only [fxOf, List.mem_cons] at hp
    rcases hp with rfl | hp
    · exact h1
    · exact ihr h2 p hp
  | _ => intro us k p hp; simp [fxOf] at hp
theorem val1_names {E : Env} {v : AV} {u : Value} (h : Val1 E v u) : ∀ o, o ∈ v.names → ∃ d, E.s o = some d := by
  intro o ho
  rcases h with h | ⟨_, cs, _, h⟩ | ⟨_, _, h⟩
  · subst h; simp [AV.names] at ho
  · exact ce_names h o ho
  · exact ce_names h o ho

theorem skel_fx {E : Env} : ∀ {v : AV} {us : List Value}, (∀ p, p ∈ fxOf v us → Val E p.1 p.2) → ∀ p, p ∈ fxOf (skel v) us → Val E p.1 p.2 := by
  intro v
  induction v with
  | cons h r _ ih =>
    intro us hf p hp
    cases us with
    | nil => simp [skel, fxOf] at hp
    | cons u us =>
      simp only [skel, fxOf, List.mem_cons] at hp
      rcases hp with rfl | hp
      · dsimp only
        split
        · exact hf _ (List.mem_cons_self ..)
        · exact hf _ (List.mem_cons_self ..)
        · exact Val.top _
      · exact ih (fun q hq => hf q (List.mem_cons_of_mem _ hq)) p hp
  | _ => intro us hf p hp; simp [skel, fxOf] at hp

theorem setArgs_look {E : Env} : ∀ {c : AV} {us : List Value}, ValT E c us → ∀ (i t : Nat), look (setArgs c i) t = .top ∨ ∃ j u, t = i + j ∧ us[j]? = some u ∧ Val1 E (look (setArgs c i) t) u := by
  intro c
  induction c with
  | cons v r ihv ihr =>
    intro us k i t
    obtain ⟨u, r', rfl, h1, h2⟩ := k
    simp only [setArgs]
    rw [look_cons]
    by_cases e : i = t
    · subst e; rw [if_pos rfl]; exact .inr ⟨0, u, rfl, rfl, h1⟩
    · rw [if_neg e]
      rcases ihr h2 (i + 1) t with h | ⟨j, u', e1, e2, e3⟩
      · exact .inl h
      · exact .inr ⟨j + 1, u', by omega, by simpa using e2, e3⟩
  | _ => intro us k i t; exact .inl rfl

section
variable {P : Program} {C : Cx} {W0 : World} {F0 : Base} {ρ : Nat → Option Loc} {s s' : St} {a : Act} {w : World}

def resOne (tmps : Array Value) : ResultVar → Sem Value
  | .tmp t => pure (tmps.getD t undef)
  | .cell a t => do loadVar t (← asAddr (tmps.getD a undef))

theorem resVal_out {α : Type} (hD : DOk P C) (h : Rep W0 F0 ρ s a w) {r : α} {x : ResultVar} {k : AV → Pg α} (ho : (resVal C x k).Out s r s') :
    ∃ v u, (k v).Out s r s' ∧ Val ⟨w, s.o, ρ⟩ v u ∧ (resOne a.tmps x).run P w = .ok u w := by
  cases x with
  | tmp t => exact ⟨_, _, ho, h.tm t, rfl⟩
  | cell t T =>
    simp only [resVal] at ho
    have ho : (Pg.rdT t _).Out s r s' := ho
    simp only [Pg.Out] at ho
    split at ho
    · rename_i q p hq
      have h1 := h.tm t
      rw [hq] at h1
      obtain ⟨c, hc, hd, ho⟩ := ho
      dsimp only at ho
      split at ho
      · rename_i v' hv'
        generalize hl : loadOk (C.D T) v' = b at ho
        cases b with
        | false => exact ho.elim
        | true =>
          obtain ⟨ad, hu, hx⟩ := h1.ref_eq
          obtain ⟨l, k', e, cells, T', fr, cs, g1, g2, g3, g4, g5, g6, g7, g8, g9⟩ := h.at_ref hx hc hd
          have hce := ce_at hv' g2 g5
          have hsh := at_off hv' g2
          have hseg : seg cells (l.off + k') v'.sh.size = (cs.drop k').take e.size := by rw [hsh, seg_sub g9, g7]
          obtain ⟨u, hr, hval⟩ := run_load_ce (w := w) (E := ⟨w, s.o, ρ⟩) hD hl g4 (off := l.off + k') (by rw [hsh]; omega) (by rw [hseg]; exact hce)
          refine ⟨v', u, ho, hval, ?_⟩
          simp only [resOne, hu, asAddr, Sem.run_bind]
          simp [g3, hr]
      · exact ho.elim
    · exact ho.elim

theorem resVals_out {α : Type} (hD : DOk P C) (h : Rep W0 F0 ρ s a w) {r : α} : ∀ {l : List ResultVar} {k : List AV → Pg α}, (resVals C l k).Out s r s' →
    ∃ vs us, (k vs).Out s r s' ∧ Vals ⟨w, s.o, ρ⟩ vs us ∧ (l.mapM (resOne a.tmps)).run P w = .ok us w := by
  intro l
  induction l with
  | nil => intro k ho; exact ⟨[], [], ho, rfl, by simp⟩
  | cons x l ih =>
    intro k ho
    obtain ⟨v, u, h1, h2, h3⟩ := resVal_out hD h ho
    obtain ⟨vs, us, g1, g2, g3⟩ := ih h1
    refine ⟨v :: vs, u :: us, g1, ⟨u, us, rfl, h2, g2⟩, ?_⟩
    simp [List.mapM_cons, h3, g3]

theorem results_run {fn : Func} {tmps : Array Value} {us : List Value} (h : (fn.results.toList.mapM (resOne tmps)).run P w = .ok us w) : (results fn tmps).run P w = .ok (retV us) w := by
  have e : results fn tmps = (do
      let vs ← fn.results.mapM (resOne tmps)
      pure (if h : vs.size = 1 then vs[0] else .tuple vs)) := by
    unfold results
    rfl
  rw [e, Array.mapM_eq_mapM_toList]
  simp only [Sem.run_bind, Sem.run_map, h]
  simp
  match us with
  | [] => simp [retV]
  | [u] => simp [retV]
  | u :: v :: r => simp [retV]

theorem run_callFunc_body {f : FuncId} {fn : Func} (hf : P.funcs[f]? = some fn) (hb : fn.body.isSome = true) (hname : (fn.name == "runtime.NumGoroutine") = false) (args : Array Value) :
    (callFunc f args).run P w = .ok (.enter f args) w := by
  have h2 : fn.body ≠ none := by intro e; rw [e] at hb; cases hb
  have h3 : fn.name ≠ "runtime.NumGoroutine" := by simpa using hname
  unfold callFunc
  simp [hf, h2, h3]

theorem finPg_out (hD : DOk P C) {fn : Func} {g : Sig} {v : AV} {fin : g.rs.den × g.ps.odn → g.T} {y : g.T} (hpar : g.ps.parOk = true) (hrl : g.rs.isList = true) (hrsl : g.rs.noSl = true) {us : List Value} (hlen : us.length = g.ps.len)
    (hfx : ∀ p, p ∈ fxOf v us → Val ⟨w, s.o, ρ⟩ p.1 p.2) (h : Rep W0 F0 ρ s a w) (ho : (finPg C fn g v fin).Out s y s') :
    ∃ r o rs bs1 bs2, y = fin (r, o) ∧ (results fn a.tmps).run P w = .ok (retV rs) w ∧ (bs1 ++ bs2).Nodup ∧ (∀ b, b ∈ bs1 ++ bs2 → F0.F b ∨ W0.heap.size ≤ b) ∧ (∀ F, Args w F g.rs r rs bs1) ∧ ∀ F, Outs w F g.ps o us bs2 := by
  unfold finPg at ho
  obtain ⟨vs, rs, ho, hvs, hres⟩ := resVals_out hD h ho
  obtain ⟨r, own, ro, bs1, ho, l1, s1, A1⟩ := exA_out h hrl hvs ho
  obtain ⟨o, own', ro', bs2, ho, l2, s2, A2⟩ := exO_out h hpar hlen hfx ho
  obtain ⟨hn, ho⟩ := out_bif' ho
  obtain ⟨hy, _⟩ := ho
  have hl : ∀ q ∈ own ++ own', ∃ c, s.o q = some c ∧ c.sh ≠ .bad := fun q hq => (List.mem_append.1 hq).elim (l1 q) (l2 q)
  have hsub : (bs1 ++ bs2).Sublist (blk ρ (own ++ own')) := by rw [blk_append]; exact s1.append s2
  refine ⟨r, o, rs, bs1, bs2, hy, results_run hres, hsub.nodup (blk_nodup h (nodupN_iff.1 hn) hl), fun b hb => ?_, fun F => A1 F (.inl hrsl), A2⟩
  obtain ⟨q, c, k, _, h1, h2, h3, h4⟩ := blk_mem hl (hsub.subset hb)
  rw [← h4]; exact h.own q c k h1 h2 h3

/-- a function whose evaluation is its model keeps the promise -/
theorem meets_of (hC : CxOK P C) (hm : P.follows .mixedOrders = true) {f : FuncId} {fn : Func} {c : Code} {g : Sig} {ann : Nat → Ann} (hf : P.funcs[f]? = some fn) (hb : fn.body = some c)
    (hname : (fn.name == "runtime.NumGoroutine") = false) (hok : g.ok = true) (hn : g.ps.len ≤ fn.ntmps) (fin : g.rs.den × g.ps.odn → g.T) (hfin : ∀ x p, g.res x (fin p) = p.1 ∧ g.out x (fin p) = p.2)
    (H : ∀ x, evalFn C ann fn c g x fin = g.m x) : Meets P f g := by
  intro w x us bs hbs hargs y hy
  simp only [Sig.ok, Bool.and_eq_true] at hok
  obtain ⟨⟨hrsl, hpar⟩, hrl⟩ := hok
  unfold CallsF
  rw [run_callFunc_body hf (by rw [hb]; rfl) hname]
  refine calls_of_wp hf hb ?_
  have hlen := args_len hargs
  have hev := H x
  rw [hy] at hev
  unfold evalFn at hev
  obtain ⟨v, s1, s1', ho, hs, hk⟩ := runK_out (Same.refl _) hev
  obtain ⟨cv, l, n, τ, pl, ho, hL, hLE⟩ := inA_out (parOk_isList hpar) hargs ho
  obtain ⟨s2, ho, n2, t2, w2, o2⟩ := out_newAll ho
  obtain ⟨rfl, rfl⟩ := ho
  have hob : ∀ o, St.o ⟨fn.ntmps, setArgs v 0, s1'.ob⟩ o = s1.o o := fun o => hs.o o
  have hdom : ∀ o c, s1.o o = some c → (o, c) ∈ l := by
    intro o c hc
    by_cases e : o ∈ namesOf l
    · obtain ⟨q, hq, rfl⟩ := List.mem_map.1 e
      rw [(w2 q hq).1] at hc
      cases hc; exact hq
    · rw [o2 o e] at hc; simp [St.o, look?] at hc
  let S : St := ⟨fn.ntmps, setArgs v 0, s1'.ob⟩
  have hSo : S.o = s1.o := funext hob
  let E : Env := ⟨w, S.o, τ⟩
  have hon : OnE E l τ := fun p hp => ⟨by show S.o p.1 = _; rw [hSo]; exact (w2 p hp).1, rfl⟩
  have hnames : ∀ o c, S.o o = some c → o ∈ namesOf l := fun o c hc => by rw [hSo] at hc; exact List.mem_map.2 ⟨_, hdom o c hc, rfl⟩
  have hF : ∀ b, E.F b → b ∈ bs := by
    rintro b ⟨o, c, k, h1, h2, h3, h4⟩
    have := hL.blk o k (hnames o c h1) h3
    rw [← h4]
    exact hL.sub.subset (List.mem_map.2 ⟨_, this, rfl⟩)
  obtain ⟨hval, hobs⟩ := hLE E rfl hon (.inr hF)
  have hrep : Rep w ⟨(· ∈ bs), fxOf v us⟩ τ S { tmps := us.toArray ++ Array.replicate (fn.ntmps - us.toArray.size) undef, defers := [] } w := by
    refine ⟨?_, rfl, fun t => ?_, fun o c hc hs => ?_, ?_, ?_, Fr.refl w _, fun p hp => .inl (valT_fx hval p hp)⟩
    · show (us.toArray ++ Array.replicate (fn.ntmps - us.toArray.size) undef).size = fn.ntmps
      simp; omega
    · show Val E (look (setArgs v 0) t) _
      rcases setArgs_look hval 0 t with e | ⟨j, u, e1, e2, e3⟩
      · rw [e]; exact Val.top _
      · have hj : j < us.length := (List.getElem?_eq_some_iff.1 e2).1
        have : (us.toArray ++ Array.replicate (fn.ntmps - us.toArray.size) undef).getD t undef = u := by
          subst e1
          have e2' := (List.getElem?_eq_some_iff.1 e2).2
          rw [Array.getD_eq_getD_getElem?, Array.getElem?_append_left (by simpa using (by omega : 0 + j < us.length))]
          simp [hj, e2']
        rw [this]; exact .inl e3
    · exact hobs _ (by rw [hSo] at hc; exact hdom o c hc)
    · intro o o' c c' k k' hc hc' _ _ hk hk' hbb
      have g1 := hL.blk o k (hnames o c hc) hk
      have g2 := hL.blk o' k' (hnames o' c' hc') hk'
      rw [hbb] at g1
      exact pl_inj (hL.sub.nodup hbs) g1 g2
    · intro o c k hc _ hk
      exact .inl (hL.sub.subset (List.mem_map.2 ⟨_, hL.blk o k (hnames o c hc) hk, rfl⟩))
  refine code_wp hC hm (F0 := ⟨(· ∈ bs), fxOf v us⟩) (fun i p hp o ho => ?_) hk hrep fun e s' a' w' ρ' hr hk' => ?_
  · obtain ⟨d, hd⟩ := val1_names (valT_fx hval p hp) o ho
    have hd : S.o o = some d := hd
    have : o ∈ namesOf s1'.ob := List.mem_map.2 ⟨_, look?_some hd, rfl⟩
    exact List.mem_append_left _ this
  · have fin' : (finPg C fn g (skel v) fin).runK s' (fun y _ => some y) = some y → a'.defers = [] ∧ ∃ u, (results fn a'.tmps).run P w' = .ok u w' ∧ ∃ rs bs1 bs2, Found g x us bs w y u w' rs bs1 bs2 := by
      intro hk'
      obtain ⟨y', t1, t1', ho, _, e⟩ := runK_out (Same.refl _) hk'
      cases e
      obtain ⟨r, o, rs, bs1, bs2, rfl, h1, h2, h3, h4, h5⟩ := finPg_out hC.D hpar hrl hrsl hlen (skel_fx hr.fx) hr ho
      obtain ⟨f1, f2⟩ := hfin x (r, o)
      exact ⟨hr.defers, _, h1, rs, bs1, bs2, rfl, hr.fr, h2, h3, by rw [f1]; exact h4 _, by rw [f2]; exact h5 _⟩
    cases e with
    | normal => exact fin' hk'
    | ret => exact fin' hk'
    | exit i => cases hk'

theorem mkD_ok {l : List (Nat × TI)} (h : ∀ q, q ∈ l → tiB P q.1 q.2 = true) (T : Nat) : mkD l T = TI.none ∨ Nonempty (TOk P T (mkD l T)) := by
  induction l with
  | nil => exact .inl rfl
  | cons q l ih =>
    obtain ⟨i, t⟩ := q
    simp only [mkD]
    cases e : Nat.beq i T with
    | true =>
      have e := Nat.eq_of_beq_eq_true e
      subst e
      exact .inr (tok_of_tiB (h (i, t) (List.mem_cons_self ..)))
    | false => exact ih fun q hq => h q (List.mem_cons_of_mem _ hq)
def tisB (P : Program) : List (Nat × TI) → Bool
  | [] => true
  | q :: r => tiB P q.1 q.2 && tisB P r
theorem tisB_spec : ∀ {l : List (Nat × TI)}, tisB P l = true → ∀ q, q ∈ l → tiB P q.1 q.2 = true := by
  intro l
  induction l with
  | nil => intro _ q hq; simp at hq
  | cons x l ih =>
    intro h q hq
    simp only [tisB, Bool.and_eq_true] at h
    rcases List.mem_cons.1 hq with rfl | hq
    · exact h.1
    · exact ih h.2 q hq
/-- a slice's or an array's element is known -/
def elemB (D : Nat → TI) : List (Nat × TI) → Bool
  | [] => true
  | q :: r => (match q.2.k with | .sl e => (D e).k.ok | .arr _ e => (D e).k.ok | _ => true) && elemB D r
theorem elemB_spec {D : Nat → TI} : ∀ {l : List (Nat × TI)}, elemB D l = true → ∀ T e, ((mkD l T).k = .sl e ∨ ∃ m, (mkD l T).k = .arr m e) → (D e).k ≠ .other := by
  intro l
  induction l with
  | nil => intro _ T e h; simp [mkD, TI.none] at h
  | cons x l ih =>
    obtain ⟨i, t⟩ := x
    intro h T e he
    simp only [elemB, Bool.and_eq_true] at h
    simp only [mkD] at he
    cases hb : Nat.beq i T with
    | true =>
      simp only [hb, cond_true] at he
      intro ho
      have h1 := h.1
      rcases he with he | ⟨m, he⟩ <;> rw [he] at h1 <;> simp [TK.ok, ho] at h1
    | false => simp only [hb, cond_false] at he; exact ih h.2 T e he
def GOk (P : Program) : List (Nat × Sig) → Prop
  | [] => True
  | q :: r => Meets P q.1 q.2 ∧ GOk P r
theorem mkG_ok : ∀ {l : List (Nat × Sig)}, GOk P l → ∀ f g, mkG l f = some g → Meets P f g := by
  intro l
  induction l with
  | nil => intro _ f g h; simp [mkG] at h
  | cons x l ih =>
    obtain ⟨i, t⟩ := x
    intro h f g hg
    simp only [mkG] at hg
    cases hb : Nat.beq i f with
    | true =>
      simp only [hb, cond_true, Option.some.injEq] at hg
      have e := Nat.eq_of_beq_eq_true hb
      subst e; subst hg
      exact h.1
    | false => simp only [hb, cond_false] at hg; exact ih h.2 f g hg
theorem cxOK_of {l : List (Nat × TI)} {gs : List (Nat × Sig)} (h1 : tisB P l = true) (h2 : elemB (mkD l) l = true) (h3 : GOk P gs) (n : Nat) : CxOK P ⟨mkD l, mkG gs, n⟩ :=
  ⟨fun T => mkD_ok (tisB_spec h1) T, fun T e h => elemB_spec h2 T e h, mkG_ok h3⟩
end
end Go.Ev
