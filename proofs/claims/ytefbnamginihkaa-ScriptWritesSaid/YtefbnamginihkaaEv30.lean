/- strings.Repeat by the library's contract. -/
import Derived.Test.YtefbnamginihkaaEvC
import Derived.Lib.Repeat
import Derived.Below
set_option linter.unusedVariables false
namespace Go.Ev
open Go Go.RowKit

def repS (s : ByteArray) (c : Int) : Option ByteArray := if 0 ≤ c then if c ≤ 9223372036854775807 then if s.size * c.toNat ≤ 140737488355328 then some ⟨(Lib.repeatL s.data.toList c.toNat).toArray⟩ else none else none else none
def gRep : Sig := ⟨.cons (.pure .str) (.cons (.pure (.int .i64)) .nl), .cons (.pure .str) .nl, ByteArray, fun x => repS x.1 x.2.1, fun _ y => (y, ()), fun _ _ => ((), ((), ()))⟩

theorem vtr_int {w : World} {F : Nat → Prop} {k : IntKind} {x : Int} {u : Value} {bs : List Nat} (h : VTr w F (.pure (.int k)) x u bs) : u = .int k x ∧ bs = [] := by
  rcases h with ⟨h, _⟩ | ⟨_, h, hb⟩
  · simp [SP.agg, Ty.agg] at h
  · have h : [u] = [Value.int k x] := h
    exact ⟨by simpa using h, hb⟩

theorem fr_of_below {w w' : World} (h : Below w.heap.size w w') (F : Nat → Prop) : Fr w F w' :=
  ⟨h.os, h.tape, h.output, h.size, fun b hb _ => h.block b hb, fun b cells T fr hc => ⟨cells, fr, by
    have : b < w.heap.size := by
      rcases Nat.lt_or_ge b w.heap.size with c | c
      · exact c
      · rw [Array.getElem?_eq_none c] at hc; cases hc
    rw [h.block b this, hc], Nat.le_refl _⟩⟩

theorem meets_rep {P : Program} {f : FuncId} {fn : Func} (hf : P.funcs[f]? = some fn) (hname : (fn.name == "runtime.NumGoroutine") = false) (hb : fn.body.isSome = true)
    (H : ∀ (s : ByteArray) (c : Nat) (w : World), c ≤ 9223372036854775807 → s.size * c ≤ 140737488355328 → Calls P f #[.string s, .int .i64 c] w fun e w' => e = .returned (.string ⟨(Lib.repeatL s.data.toList c).toArray⟩) ∧ Below w.heap.size w w') : Meets P f gRep := by
  intro w x us bs hbs hargs y hy
  obtain ⟨u, r, b1, b2, rfl, rfl, h1, u2, r2, b3, b4, rfl, rfl, h2, rfl, rfl⟩ := hargs
  obtain ⟨rfl, rfl⟩ := vtr_str h1
  obtain ⟨rfl, rfl⟩ := vtr_int h2
  unfold CallsF
  rw [run_callFunc_body hf hb hname]
  have hy : repS x.1 x.2.1 = some y := hy
  unfold repS at hy
  split at hy
  case isFalse => cases hy
  rename_i c0
  split at hy
  case isFalse => cases hy
  rename_i c1
  split at hy
  case isFalse => cases hy
  rename_i c2
  cases hy
  have hc : ((x.2.1.toNat : Nat) : Int) = x.2.1 := Int.toNat_of_nonneg c0
  have h := H x.1 x.2.1.toNat w (by omega) c2
  rw [hc] at h
  refine h.mono fun e w' ⟨he, hw⟩ => ?_
  subst he
  have goal' : ∃ rs bs1 bs2, Found gRep x [.string x.1, .int .i64 x.2.1] ([] ++ ([] ++ [])) w (⟨(Lib.repeatL x.1.data.toList x.2.1.toNat).toArray⟩ : ByteArray) (.string ⟨(Lib.repeatL x.1.data.toList x.2.1.toNat).toArray⟩) w' rs bs1 bs2 :=
    ⟨[.string _], [], [], rfl, fr_of_below hw _, by simp, by simp, ⟨_, _, [], [], rfl, rfl, .inr ⟨rfl, rfl, rfl⟩, rfl, rfl⟩, ⟨_, _, [], [], rfl, rfl, rfl, _, _, [], [], rfl, rfl, rfl, rfl⟩⟩
  exact goal'
end Go.Ev
