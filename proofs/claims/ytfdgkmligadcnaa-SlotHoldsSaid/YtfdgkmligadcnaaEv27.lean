/- Functions of the library that have no body. -/
import Derived.Test.YtfdgkmligadcnaaEv26
import Derived.Laws.Externs
set_option linter.unusedVariables false
namespace Go.Ev
open Go

def cmpS (a b : ByteArray) : Option Int := some (Extern.BytealgCompare.cmp a b)
def gCmp : Sig := ⟨.cons (.pure .str) (.cons (.pure .str) .nl), .cons (.pure (.int .i64)) .nl, Int, fun x => cmpS x.1 x.2.1, fun _ y => (y, ()), fun _ _ => ((), ((), ()))⟩

theorem vtr_str {w : World} {F : Nat → Prop} {x : ByteArray} {u : Value} {bs : List Nat} (h : VTr w F (.pure .str) x u bs) : u = .string x ∧ bs = [] := by
  rcases h with ⟨h, _⟩ | ⟨_, h, hb⟩
  · simp [SP.agg, Ty.agg] at h
  · have h : [u] = [Value.string x] := h
    exact ⟨by simpa using h, hb⟩

theorem meets_cmp {P : Program} {f : FuncId} {fn : Func} (hf : P.funcs[f]? = some fn) (hname : (fn.name == "runtime.NumGoroutine") = false) (hb : fn.body.isNone = true) (hn : Extern.findNext fn = none)
    (he : Extern.find fn = some Extern.BytealgCompare.compare) : Meets P f gCmp := by
  intro w x us bs hbs hargs y hy
  obtain ⟨u, r, b1, b2, rfl, rfl, h1, u2, r2, b3, b4, rfl, rfl, h2, rfl, rfl⟩ := hargs
  obtain ⟨rfl, rfl⟩ := vtr_str h1
  obtain ⟨rfl, rfl⟩ := vtr_str h2
  unfold CallsF
  rw [run_callFunc_extern hf hname hb hn he]
  have hy : some (Extern.BytealgCompare.cmp x.1 x.2.1) = some y := hy
  cases hy
  have goal' : ∃ rs bs1 bs2, Found gCmp x [.string x.1, .string x.2.1] ([] ++ ([] ++ [])) w (Extern.BytealgCompare.cmp x.1 x.2.1) (.int .i64 (Extern.BytealgCompare.cmp x.1 x.2.1)) w rs bs1 bs2 :=
    ⟨[.int .i64 _], [], [], rfl, Fr.refl _ _, by simp, by simp, ⟨_, _, [], [], rfl, rfl, .inr ⟨rfl, rfl, rfl⟩, rfl, rfl⟩, ⟨_, _, [], [], rfl, rfl, rfl, _, _, [], [], rfl, rfl, rfl, rfl⟩⟩
  exact goal'
end Go.Ev
