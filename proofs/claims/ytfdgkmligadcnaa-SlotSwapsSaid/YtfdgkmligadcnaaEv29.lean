/- The row of a law: it holds if its function keeps its promise, and the promised answer is always true. -/
import Derived.Test.YtfdgkmligadcnaaEv28
import Derived.JoinedOf
import Derived.ChangeSame
import Derived.Carry
set_option linter.unusedVariables false
set_option linter.unusedSimpArgs false
namespace Go.Ev
open Go Go.ChangeShapes Go.WideShapes Go.ChangeAt Go.RowKit
open Go.ChangeMaps (open_string shut_string)

def SP.wf : (s : SP) → s.den → Prop
  | .pure t, x => t.wf x
  | .cons a b, x => a.wf x.1 ∧ b.wf x.2
  | _, _ => True

def parsB (P : Program) : SP → List TypeId → Bool
  | .nl, [] => true
  | .cons (.pure t) b, T :: r => tyB P t (.inl T) && Nat.blt T P.types.size && P.readableRec T && parsB P b r
  | _, _ => false

section
variable {H : Type} {enc : TypeId × Value → H} {P : Program} {w : World} {sp : Nat → Bool} {held : Bool}

theorem val_of {t : Ty} {T base : Nat} {v : Value} {d : DataW H} {p : List MemPlace} (ht : tyB P t (.inl T) = true) (hv : Value.okWide P w .any base T v) (h : DataW.Trod enc P w 0 sp held T v d p) :
    ∃ x : t.den, VTr w (· ∈ ([] : List Nat)) (.pure t) x v [] ∧ t.wf x := by
  have hF : (fun b : Nat => b ∈ ([] : List Nat)) = fun _ => False := by funext b; simp
  rw [hF]
  obtain ⟨fuel, hf⟩ := h
  have key := (trod_pu (enc := enc) (P := P) (w := w) (sp := sp) (held := held) t).1 fuel T _ _ ht hf
  obtain ⟨x, hx, wx⟩ := key
  refine ⟨x, ?_, wx⟩
  have leaf : t.agg = false → v.cells.toList = [v] → VTr w (fun _ => False) (.pure t) x v [] := by
    intro h1 h2
    rw [h2] at hx
    exact .inr ⟨h1, hx, rfl⟩
  have agg : t.agg = true → (∃ cs, v = .agg cs) → VTr w (fun _ => False) (.pure t) x v [] := by
    rintro h1 ⟨cs, rfl⟩
    exact .inl ⟨h1, cs.toList, by simp, hx, rfl⟩
  cases t with
  | int k =>
    simp only [tyB] at ht
    split at ht
    · rename_i hu; obtain ⟨n, rfl⟩ := okWide_int hu hv; exact leaf rfl rfl
    · cases ht
  | bool =>
    simp only [tyB] at ht
    split at ht
    · rename_i hu; obtain ⟨n, rfl⟩ := okWide_bool hu hv; exact leaf rfl rfl
    · cases ht
  | str =>
    simp only [tyB] at ht
    split at ht
    · rename_i hu; obtain ⟨n, rfl⟩ := okWide_string hu hv; exact leaf rfl rfl
    · cases ht
  | nl => simp [tyB] at ht
  | pair a b =>
    simp only [tyB] at ht
    split at ht
    · rename_i fs hu
      simp only [Value.okWide, hu] at hv
      obtain ⟨cs, hcs, _⟩ := hv
      exact agg rfl ⟨cs, hcs⟩
    · cases ht
  | arr n t =>
    simp only [tyB] at ht
    split at ht
    · rename_i m e hu
      simp only [Value.okWide, hu] at hv
      obtain ⟨cs, hcs, _⟩ := hv
      exact agg rfl ⟨cs, hcs⟩
    · cases ht
  | sl t =>
    simp only [tyB] at ht
    split at ht
    · rename_i e hu
      obtain ⟨a, len, cap, rfl⟩ := okWide_slice hu hv
      exact leaf rfl rfl
    · cases ht

theorem args_of {base : Nat} : ∀ {ps : SP} {Ts : List TypeId} {vs : List Value} {ds : List (DataW H)} {q : List MemPlace}, parsB P ps Ts = true → DataW.TrodAll enc P w 0 sp held Ts vs ds q →
    (∀ (j : Nat) t v, Ts[j]? = some t → vs[j]? = some v → Value.okWide P w .any base t v) → ∃ x : ps.den, Args w (· ∈ ([] : List Nat)) ps x vs [] ∧ ps.wf x := by
  intro ps
  induction ps with
  | nl =>
    intro Ts vs ds q hp h hok
    cases Ts with
    | nil =>
      obtain ⟨rfl, rfl, rfl⟩ := trodAll_nil h
      exact ⟨(), ⟨rfl, rfl⟩, trivial⟩
    | cons T r => simp [parsB] at hp
  | cons a b iha ihb =>
    intro Ts vs ds q hp h hok
    cases a with
    | pure t =>
      cases Ts with
      | nil => simp [parsB] at hp
      | cons T r =>
        simp only [parsB, Bool.and_eq_true] at hp
        obtain ⟨⟨⟨h1, _⟩, _⟩, h2⟩ := hp
        obtain ⟨v, vs', d, ds', p', q', rfl, rfl, rfl, hd, hrest⟩ := trodAll_cons h
        obtain ⟨x, hx, wx⟩ := val_of h1 (hok 0 T v rfl rfl) hd
        obtain ⟨y, hy, wy⟩ := ihb h2 hrest fun j t v h1 h2 => hok (j + 1) t v (by simpa using h1) (by simpa using h2)
        exact ⟨(x, y), ⟨v, vs', [], [], rfl, rfl, hx, hy⟩, wx, wy⟩
    | _ => cases Ts <;> simp [parsB] at hp
  | _ => intro Ts vs ds q hp h hok; cases Ts <;> simp [parsB] at hp

theorem trodAll_below (hl : laidOutB P = true) {W W' : World} (hb : Below W.heap.size W W') : ∀ {ps : SP} {Ts : List TypeId} {vs : List Value} {ds : List (DataW H)} {q : List MemPlace}, parsB P ps Ts = true →
    DataW.TrodAll enc P W 0 (fun _ => true) true Ts vs ds q → (∀ x ∈ q, x.block < W.heap.size) → DataW.TrodAll enc P W' 0 (fun b => decide (b < W.heap.size)) true Ts vs ds q := by
  intro ps
  induction ps with
  | nl =>
    intro Ts vs ds q hp h hq
    cases Ts with
    | nil => obtain ⟨rfl, rfl, rfl⟩ := trodAll_nil h; exact trodAll_mk0
    | cons T r => simp [parsB] at hp
  | cons a b iha ihb =>
    intro Ts vs ds q hp h hq
    cases a with
    | pure t =>
      cases Ts with
      | nil => simp [parsB] at hp
      | cons T r =>
        simp only [parsB, Bool.and_eq_true] at hp
        obtain ⟨⟨⟨_, h1⟩, h3⟩, h2⟩ := hp
        obtain ⟨v, vs', d, ds', p', q', rfl, rfl, rfl, hd, hrest⟩ := trodAll_cons h
        exact trodAll_cons_mk (Below.trod hl h3 (Nat.blt_eq.mp h1) hd hb fun x hx => hq x (List.mem_append_left _ hx)) (ihb h2 hrest fun x hx => hq x (List.mem_append_right _ hx))
    | _ => cases Ts <;> simp [parsB] at hp
  | _ => intro Ts vs ds q hp h hok; cases Ts <;> simp [parsB] at hp

/-- a function that hands back one bool -/
def Sig.bool (g : Sig) : Prop := ∀ (w : World) (F : Nat → Prop) (x : g.ps.den) (y : g.T) (rs : List Value) (bs : List Nat), Args w F g.rs (g.res x y) rs bs → ∃ b, rs = [.bool b]
/-- .. which is true -/
def Sig.says (g : Sig) (x : g.ps.den) (y : g.T) : Prop := ∀ (w : World) (F : Nat → Prop) (rs : List Value) (bs : List Nat), Args w F g.rs (g.res x y) rs bs → rs = [.bool true]

theorem says_true {w : World} {F : Nat → Prop} {rs : List Value} {bs : List Nat} (h : Args w F (.cons (.pure .bool) .nl) (true, ()) rs bs) : rs = [.bool true] := by
  obtain ⟨u, r, b1, b2, rfl, rfl, h1, rfl, rfl⟩ := h
  rcases h1 with ⟨h, _⟩ | ⟨_, h, hb⟩
  · simp [SP.agg, Ty.agg] at h
  · have h : [u] = [Value.bool true] := h
    exact h

theorem law_contract {f : FuncId} {fn : Func} {g : Sig} {s : ChangeSpec} (hM : Meets P f g) (hf : P.funcs[f]? = some fn) (hb : fn.body.isSome = true) (hname : (fn.name == "runtime.NumGoroutine") = false)
    (hl : laidOutB P = true) (hps : parsB P g.ps fn.params.toList = true) {Tb : TypeId} (hres : fn.resultTypes = #[Tb]) (hTb : P.underlying Tb = some .bool) (hvars : s.vars = [])
    (hspec : ∀ ds : List (DataW H), ds.length = fn.params.size → s.fn H ds = { results := [.lit (.bool true)], args := ds })
    (htrue : ∀ x, g.ps.wf x → ∃ y, g.m x = some y ∧ g.says x y)
    (W : World) (base : Nat) (args : Array Value) (ds gs : List (DataW H)) (before : List MemPlace)
    (hval : ∀ (j : Nat) t v, fn.params[j]? = some t → args[j]? = some v → Value.okWide P W .any base t v)
    (hW : DataW.Whole enc P fn.params.toList s.vars false W args.toList ds gs before) :
    Calls P f args W fun e W' => ∃ v, e = .returned v ∧ s.post enc P fn false true false false W args v W' := by
  have hlt := fun p hp => hW.lt p hp
  have hW' := hW
  obtain ⟨p, q, hA, hV, rfl, hfz, _⟩ := hW
  rw [hvars] at hV
  obtain ⟨rfl, rfl⟩ := trodVars_none hV
  obtain ⟨x, hx, wx⟩ := args_of hps hA fun j t v h1 h2 => hval j t v (by simpa using h1) (by simpa using h2)
  obtain ⟨y, hy, hsays⟩ := htrue x wx
  have hc := hM W x args.toList [] List.nodup_nil hx y hy
  unfold CallsF at hc
  rw [run_callFunc_body hf hb hname] at hc
  rw [show args.toList.toArray = args by simp] at hc
  refine hc.mono fun e W' he => ?_
  cases e with
  | returned v =>
    obtain ⟨rs, bs1, bs2, F⟩ := he
    have hrs := hsays _ _ _ _ F.rs
    have hv : v = .bool true := by rw [F.ret, hrs]; rfl
    subst hv
    have hB : Below W.heap.size W W' := ⟨F.fr.os, F.fr.tape, F.fr.output, F.fr.size, fun k hk => F.fr.block k hk (by simp)⟩
    have hlen : ds.length = fn.params.size := by
      have h := args_lens hA
      simpa using h
    have hsp := hspec (ds ++ []) (by simpa using hlen)
    refine ⟨_, rfl, ds, [], _, [], p, [], hW', ?_, ?_, ?_, hB.frame _, fun h => by cases h⟩
    · rw [hsp, hres]
      exact trodAll_mk1 (shut_bool hTb true)
    · rw [hsp]
      have := trodAll_below hl hB hps hA fun z hz => hlt z (List.mem_append_left _ hz)
      simpa using this
    · rw [hvars, hsp]
      rfl
  | _ => exact he.elim
 where
  args_lens {Ts : List TypeId} {vs : List Value} {ds : List (DataW H)} {q : List MemPlace} {W : World} {sp : Nat → Bool} (h : DataW.TrodAll enc P W 0 sp true Ts vs ds q) : ds.length = Ts.length := by
    induction Ts generalizing vs ds q with
    | nil => obtain ⟨rfl, rfl, rfl⟩ := trodAll_nil h; rfl
    | cons T r ih =>
      obtain ⟨v, vs', d, ds', p', q', rfl, rfl, rfl, hd, hrest⟩ := trodAll_cons h
      simp [ih hrest]
end
end Go.Ev
