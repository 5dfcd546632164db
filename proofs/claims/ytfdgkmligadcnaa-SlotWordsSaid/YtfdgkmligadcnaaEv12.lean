/- Conversions; new rows: make, append, a literal; copy and clear. -/
import Derived.Test.YtfdgkmligadcnaaEv11
set_option linter.unusedVariables false
set_option linter.unusedSimpArgs false
namespace Go.Ev
open Go
section
variable {P : Program} {C : Cx} {W0 : World} {F0 : Base} {ρ : Nat → Option Loc} {s s' : St} {a : Act} {w : World}

/-- a plain value's cells, row by row -/
def rowOf (t : Ty) (xs : List t.den) (cs : List Value) (w : World) (F : Nat → Prop) : Prop := Pu w F (.arr xs.length t) xs cs

theorem Rep.drew (h : Rep W0 F0 ρ s a w) : Rep W0 F0 ρ s a w.drew := h.world rfl rfl rfl rfl

theorem Rep.newFull (h : Rep W0 F0 ρ s a w) {o : Nat} {t : Ty} {xs : List t.den} {cells : Array Value} {T : TypeId} {fr : Nat × Nat} {n cap : Nat} (hab : s.o o = none) {cs : List Value} (hc : Pu w (Env.F ⟨w, s.o, ρ⟩) (.arr xs.length t) xs cs)
    (hl : cs.length ≤ cells.size) (hs : seg cells 0 cs.length = cs) (hf : Unfrozen fr 0 cells.size) (hn : xs.length = n) (hcap : n ≤ cap) (hfit : cap * t.size ≤ cells.size) :
    ∃ ρ', Rep W0 F0 ρ' (s.setO o (.bk t xs)) a (w.alloc (.cells cells T fr)) ∧ Val ⟨w.alloc (.cells cells T fr), (s.setO o (.bk t xs)).o, ρ'⟩ (.full o) (.slice (some ⟨w.heap.size, 0, none⟩) n cap) := by
  subst hn
  refine ⟨_, h.new (c := .bk t xs) hab hc hl hs hf, Val.leaf rfl ⟨_, rfl, _, _, _, rfl, hcap, .bk t xs, by simp [St.setO_o], .inr ⟨t, rfl, .inr ⟨⟨w.heap.size, 0⟩, cells, T, fr, by simp [upd], rfl, hp_new _ _, by simpa using hfit⟩⟩⟩⟩

theorem bytes_pu (b : ByteArray) (w : World) (F : Nat → Prop) : Pu w F (.arr (bytesOf b).length (.int .u8)) (bytesOf b) (b.data.toList.map fun x => Value.int .u8 x.toNat) := by
  refine ⟨rfl, by simp [bytesOf, Ty.size], fun i hi => ?_⟩
  simp only [bytesOf, List.length_map, Array.length_toList] at hi
  have hi' : i < b.data.toList.length := by simpa using hi
  show List.take 1 (List.drop (i * 1) _) = _
  rw [Nat.mul_one]
  apply List.ext_getElem?
  intro j
  simp only [List.getElem?_take, List.getElem?_drop, List.getElem?_map]
  cases j with
  | zero =>
    have e : b.data.toList[i]? = some b.data.toList[i] := List.getElem?_eq_getElem hi'
    simp only [Nat.add_zero, Nat.zero_lt_one, if_true, bytesOf, List.getD, List.getElem?_map, e, Option.map_some, Option.getD_some, Nat.lt_one_iff]
    rfl
  | succ j => simp

theorem freeze_alloc (w : World) (cells : Array Value) (T : TypeId) (n : Nat) : (w.alloc (.cells cells T (0, 0))).freeze ⟨w.heap.size, n, none⟩ 1 = w.alloc (.cells cells T (n, n + 1)) := by
  unfold World.freeze
  rw [if_neg (by omega)]
  show { w with heap := (w.heap.push _).modify w.heap.size _ } = { w with heap := w.heap.push _ }
  congr 1
  apply Array.ext
  · simp
  · intro i h1 h2
    simp only [Array.getElem_modify]
    by_cases e : w.heap.size = i
    · subst e; simp
    · rw [if_neg e]
      have : i < w.heap.size := by simp at h2; omega
      rw [Array.getElem_push_lt this, Array.getElem_push_lt this]

theorem run_stringToBytes {e : TypeId} (b : ByteArray) : ∃ cap, b.size ≤ cap ∧ (Conv.stringToBytes e b).run P w =
    .ok (.slice (some ⟨w.heap.size, 0, none⟩) b.size cap) (w.drew.alloc (.cells ((b.data.map fun x => Value.int .u8 x.toNat) ++ Array.replicate (cap - b.size) (.int .u8 0)) e (cap, cap + 1))) := by
  have hcap : b.size ≤ (Question.appendCap b.size 0 e).cut (w.tape w.drawn (.appendCap b.size 0 e)) := by simp [Question.cut]
  refine ⟨_, hcap, ?_⟩
  generalize hq : (Question.appendCap b.size 0 e).cut (w.tape w.drawn (.appendCap b.size 0 e)) = cap at hcap
  unfold Conv.stringToBytes
  have hsz : ((b.data.map fun x => Value.int .u8 x.toNat) ++ Array.replicate (cap - b.size) (Value.int .u8 0)).size = cap := by
    have : b.data.size = b.size := rfl
    simp; omega
  simp only [Sem.run_bind, run_choose_drew, Question.forced, Bool.false_eq_true, if_false, Result.andThen_ok, hq]
  generalize hcs : (b.data.map fun x => Value.int .u8 x.toNat) ++ Array.replicate (cap - b.size) (Value.int .u8 0) = cells at hsz
  simp only [newRow, Sem.run_bind, run_newObj_alloc, Result.andThen_ok, Sem.run_pure, markStringish]
  have hsh : (shape (w.drew).heap.size).run P (w.drew.alloc (.cells cells e (0, 0))) = .ok (some (e, cells.size)) (w.drew.alloc (.cells cells e (0, 0))) := by
    show Result.ok (World.shape? _ _) _ = _
    unfold World.shape?
    rw [hp_new]
  rw [hsh]
  simp only [Result.andThen_ok]
  show (Result.ok () ((w.drew.alloc (.cells cells e (0, 0))).freeze ⟨w.drew.heap.size, cells.size, none⟩ 1)).andThen _ = _
  rw [freeze_alloc, hsz]
  rfl
end
end Go.Ev
