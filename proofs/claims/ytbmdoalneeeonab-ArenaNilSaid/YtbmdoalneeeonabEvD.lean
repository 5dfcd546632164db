/- The arguments of a law, read as plain data, are plain data. -/
import Derived.Test.YtbmdoalneeeonabEvC
import Derived.ProofKit
import Derived.OpenShut
import Derived.JoinedOf
import Derived.ChangeSame
import Derived.Carry
set_option linter.unusedVariables false
set_option linter.unusedSimpArgs false
namespace Go.Ev
open Go

/-- the integers of a value are within their kinds -/
def Ty.wf : (t : Ty) → t.den → Prop
  | .int k, x => k.min ≤ (x : Int) ∧ (x : Int) ≤ k.max
  | .bool, _ => True
  | .str, s => (s : ByteArray).size ≤ maxLen
  | .nl, _ => True
  | .pair a b, x => a.wf x.1 ∧ b.wf x.2
  | .arr n t, xs => (xs : List t.den).length = n ∧ ∀ x, x ∈ (xs : List t.den) → t.wf x
  | .sl t, xs => (xs : List t.den).length ≤ maxLen ∧ ∀ x, x ∈ (xs : List t.den) → t.wf x

def cellsB (P : Program) (T n : Nat) : Bool := Nat.beq (P.cellsOf T) n
/-- the plain kind of a type of the program -/
def tyB (P : Program) : Ty → (TypeId ⊕ (List Field × Nat)) → Bool
  | .int k, .inl T => (match P.underlying T with | some (.int k') => decide (k' = k) | _ => false)
  | .bool, .inl T => (match P.underlying T with | some .bool => true | _ => false)
  | .str, .inl T => (match P.underlying T with | some .string => true | _ => false)
  | .pair a b, .inl T => (match P.underlying T with
    | some (.struct fs) => (match fs.toList with
      | f :: r => Nat.beq f.offset 0 && cellsB P f.type a.size && cellsB P T (a.size + b.size) && tyB P a (.inl f.type) && tyB P b (.inr (r, a.size))
      | [] => false)
    | _ => false)
  | .pair a b, .inr (f :: r, off) => Nat.beq f.offset off && cellsB P f.type a.size && tyB P a (.inl f.type) && tyB P b (.inr (r, off + a.size))
  | .nl, .inr ([], _) => true
  | .arr n t, .inl T => (match P.underlying T with
    | some (.array m e) => Nat.beq m n && cellsB P e t.size && cellsB P T (n * t.size) && tyB P t (.inl e)
    | _ => false)
  | .sl t, .inl T => (match P.underlying T with
    | some (.slice e) => cellsB P e t.size && Nat.blt 0 t.size && tyB P t (.inl e)
    | _ => false)
  | _, _ => false

theorem cells_seg {w : World} {b off n : Nat} {l : List Value} (h : w.cells? 0 ⟨b, off, none⟩ n = some l) (hn : 0 < n) : ∃ cells T fr, w.heap[b]? = some (.cells cells T fr) ∧ off + n ≤ cells.size ∧ l = seg cells off n := by
  obtain ⟨_, hl, hg⟩ := World.cells?_some h
  have h0 := hg (n - 1) (by omega)
  rw [addr_add] at h0
  have hsome : l[n - 1]? = some l[n - 1] := List.getElem?_eq_getElem (by omega)
  rw [hsome] at h0
  unfold World.cell? at h0
  dsimp only at h0
  split at h0
  · rename_i c T fr hb
    simp only [Option.isSome_none, Bool.false_eq_true, if_false] at h0
    have hlt : off + (n - 1) < c.size := (Array.getElem?_eq_some_iff.1 h0).1
    refine ⟨c, T, fr, hb, by omega, ?_⟩
    refine List.ext_getElem? fun i => ?_
    by_cases hi : i < n
    · have := hg i hi
      rw [addr_add] at this
      unfold World.cell? at this
      rw [hb] at this
      simp only [Option.isSome_none, Bool.false_eq_true, if_false] at this
      rw [← this]
      simp [seg, List.getElem?_take, hi, List.getElem?_drop]
    · rw [List.getElem?_eq_none (by omega), List.getElem?_eq_none (by rw [seg_length (by omega)]; omega)]
  · cases h0

theorem cells_spot {w : World} {a : Addr} {n : Nat} {l : List Value} (h : w.cells? 0 a n = some l) (hn : 0 < n) : a = ⟨a.block, a.off, none⟩ := by
  obtain ⟨_, hl, hg⟩ := World.cells?_some h
  have h0 := hg 0 hn
  have hsome : l[0]? = some l[0] := List.getElem?_eq_getElem (by omega)
  rw [hsome] at h0
  obtain ⟨b, o, s⟩ := a
  cases s with
  | none => rfl
  | some s =>
    unfold World.cell? at h0
    simp only [Addr.add, if_true] at h0
    split at h0
    · simp at h0
    · cases h0

theorem list_of {α : Type} {p : α → Prop} (n : Nat) (d : α) (q : Nat → α → Prop) (h : ∀ i, i < n → ∃ x, q i x ∧ p x) : ∃ xs : List α, xs.length = n ∧ (∀ i, i < n → q i (xs.getD i d)) ∧ ∀ x, x ∈ xs → p x := by
  induction n with
  | zero => exact ⟨[], rfl, fun i hi => by omega, by simp⟩
  | succ n ih =>
    obtain ⟨xs, h1, h2, h3⟩ := ih fun i hi => h i (by omega)
    obtain ⟨x, h4, h5⟩ := h n (by omega)
    refine ⟨xs ++ [x], by simp [h1], fun i hi => ?_, fun y hy => ?_⟩
    · by_cases e : i < n
      · have := h2 i e
        have e2 : (xs ++ [x]).getD i d = xs.getD i d := by simp [List.getD, List.getElem?_append_left (by omega : i < xs.length)]
        rw [e2]; exact this
      · have : i = n := by omega
        subst this
        have e2 : (xs ++ [x]).getD i d = x := by simp [List.getD, ← h1]
        rw [e2]; exact h4
    · rcases List.mem_append.1 hy with hy | hy
      · exact h3 y hy
      · rw [List.mem_singleton] at hy; subst hy; exact h5

section
variable {H : Type} {enc : TypeId × Value → H} {P : Program} {w : World} {sp : Nat → Bool} {held : Bool}

def OpA (enc : TypeId × Value → H) (P : Program) (w : World) (sp : Nat → Bool) (held : Bool) (t : Ty) : Prop :=
  ∀ (fuel : Nat) (T : TypeId) (cs : List Value) (x : DataW H × List MemPlace), tyB P t (.inl T) = true → DataW.trod enc P w 0 sp held fuel T cs = some x → ∃ d : t.den, Pu w (fun _ => False) t d cs ∧ t.wf d
def OpB (enc : TypeId × Value → H) (P : Program) (w : World) (sp : Nat → Bool) (held : Bool) (t : Ty) : Prop :=
  ∀ (fuel : Nat) (fs : List Field) (off : Nat) (cs : List Value), tyB P t (.inr (fs, off)) = true → off + t.size = cs.length →
    (∀ f, f ∈ fs → ∃ x, DataW.trod enc P w 0 sp held fuel f.type ((cs.drop f.offset).take (P.cellsOf f.type)) = some x) → ∃ d : t.den, Pu w (fun _ => False) t d (cs.drop off) ∧ t.wf d

theorem cellsB_eq {T n : Nat} (h : cellsB P T n = true) : P.cellsOf T = n := Nat.eq_of_beq_eq_true h

theorem trod_pu : ∀ (t : Ty), OpA enc P w sp held t ∧ OpB enc P w sp held t := by
  intro t
  induction t with
  | int k =>
    refine ⟨fun fuel T cs x ht h => ?_, fun fuel fs off cs ht => by simp [tyB] at ht⟩
    simp only [tyB] at ht
    split at ht
    · rename_i k' hu
      have hk := of_decide_eq_true ht
      subst hk
      obtain ⟨n, rfl, _, hw⟩ := DataW.trod_int hu h
      simp only [Lit.wf, Bool.and_eq_true, decide_eq_true_eq] at hw
      exact ⟨n, rfl, hw⟩
    · cases ht
  | bool =>
    refine ⟨fun fuel T cs x ht h => ?_, fun fuel fs off cs ht => by simp [tyB] at ht⟩
    simp only [tyB] at ht
    split at ht
    · rename_i hu
      obtain ⟨n, rfl, _⟩ := DataW.trod_bool hu h
      exact ⟨n, rfl, trivial⟩
    · cases ht
  | str =>
    refine ⟨fun fuel T cs x ht h => ?_, fun fuel fs off cs ht => by simp [tyB] at ht⟩
    simp only [tyB] at ht
    split at ht
    · rename_i hu
      obtain ⟨n, rfl, _, hw⟩ := DataW.trod_string hu h
      exact ⟨n, rfl, hw⟩
    · cases ht
  | nl =>
    refine ⟨fun fuel T cs x ht h => by simp [tyB] at ht, fun fuel fs off cs ht hl h => ?_⟩
    refine ⟨(), ?_, trivial⟩
    simp only [Ty.size] at hl
    show cs.drop off = []
    rw [List.drop_eq_nil_iff]; omega
  | pair a b iha ihb =>
    have key : OpB enc P w sp held (.pair a b) := by
      intro fuel fs off cs ht hl h
      match fs, ht, h with
      | [], ht, h => simp [tyB] at ht
      | f :: r, ht, h =>
        simp only [tyB, Bool.and_eq_true] at ht
        obtain ⟨⟨⟨h1, h2⟩, h3⟩, h4⟩ := ht
        have h1 := Nat.eq_of_beq_eq_true h1
        have h2 := cellsB_eq h2
        simp only [Ty.size] at hl
        obtain ⟨x, hx⟩ := h f (List.mem_cons_self ..)
        rw [h1, h2] at hx
        obtain ⟨d, hd, wd⟩ := iha.1 fuel f.type _ x h3 hx
        obtain ⟨e, he, we⟩ := ihb.2 fuel r (off + a.size) cs h4 (by omega) fun g hg => h g (List.mem_cons_of_mem _ hg)
        exact ⟨(d, e), ⟨hd, by rw [List.drop_drop]; exact he⟩, wd, we⟩
    refine ⟨fun fuel T cs x ht h => ?_, key⟩
    simp only [tyB] at ht
    split at ht
    · rename_i fs hu
      split at ht
      · rename_i f r hfs
        simp only [Bool.and_eq_true] at ht
        obtain ⟨⟨⟨⟨h1, h2⟩, h3⟩, h4⟩, h5⟩ := ht
        obtain ⟨xs, n, _, _, hl, hxl, hf⟩ := DataW.trod_struct hu h
        rw [cellsB_eq h3] at hl
        have := key n (f :: r) 0 cs (by simp only [tyB, Bool.and_eq_true]; exact ⟨⟨⟨h1, h2⟩, h4⟩, by rw [Nat.zero_add]; exact h5⟩) (by simp only [Ty.size]; omega) (fun g hg => ?_)
        · simpa using this
        · rw [← hfs] at hg
          obtain ⟨i, hi⟩ := List.getElem?_of_mem hg
          have hi' : fs[i]? = some g := by simpa using hi
          have hlt : i < fs.size := (Array.getElem?_eq_some_iff.1 hi').1
          exact ⟨xs[i]'(by omega), by rw [hf i g hi']; exact List.getElem?_eq_getElem (by omega)⟩
      · cases ht
    · cases ht
  | arr n t ih =>
    refine ⟨fun fuel T cs x ht h => ?_, fun fuel fs off cs ht => by simp [tyB] at ht⟩
    simp only [tyB] at ht
    split at ht
    · rename_i m e hu
      simp only [Bool.and_eq_true] at ht
      obtain ⟨⟨⟨h1, h2⟩, h3⟩, h4⟩ := ht
      have h1 := Nat.eq_of_beq_eq_true h1
      have h2 := cellsB_eq h2
      have h3 := cellsB_eq h3
      subst h1
      obtain ⟨xs, k, _, _, hl, hxl, hf⟩ := DataW.trod_array hu h
      obtain ⟨ds, g1, g2, g3⟩ := list_of (p := t.wf) m t.dflt (fun i d => Pu w (fun _ => False) t d ((cs.drop (i * t.size)).take t.size)) fun i hi => by
        have := hf i hi
        rw [h2, List.getElem?_eq_getElem (by omega)] at this
        exact ih.1 k e _ _ h4 this
      exact ⟨ds, ⟨g1, by omega, g2⟩, g1, g3⟩
    · cases ht
  | sl t ih =>
    refine ⟨fun fuel T cs x ht h => ?_, fun fuel fs off cs ht => by simp [tyB] at ht⟩
    simp only [tyB] at ht
    split at ht
    · rename_i e hu
      simp only [Bool.and_eq_true] at ht
      obtain ⟨⟨h1, h2⟩, h3⟩ := ht
      have h1 := cellsB_eq h1
      have h2 : 0 < t.size := Nat.blt_eq.mp h2
      rcases DataW.trod_slice hu h with ⟨rfl, _⟩ | ⟨a, len, cap, elems, rest, n, _, rfl, _, _, hlc, hcm, hel, hee, _⟩
      · exact ⟨[], ⟨none, 0, rfl, Nat.le_refl _, .inl rfl⟩, by simp [maxLen], by simp⟩
      · by_cases h0 : len = 0
        · subst h0
          exact ⟨[], ⟨some a, cap, rfl, hlc, .inl rfl⟩, by simp [maxLen], by simp⟩
        · have each : ∀ i, i < len → ∃ l x, w.cells? 0 (a.add (i * t.size)) t.size = some l ∧ DataW.trod enc P w 0 sp held n e l = some x := by
            intro i hi
            have := hee i hi
            rw [h1, List.getElem?_eq_getElem (by omega)] at this
            simp only [Option.bind_eq_some_iff] at this
            obtain ⟨l, g1, g2⟩ := this
            exact ⟨l, _, g1, g2⟩
          have hsp : a = ⟨a.block, a.off, none⟩ := by
            obtain ⟨l, x, g1, _⟩ := each 0 (by omega)
            have : a.add (0 * t.size) = a := by simp [Addr.add]
            rw [this] at g1
            exact cells_spot g1 h2
          obtain ⟨b, off, s⟩ := a
          simp only [Addr.mk.injEq, true_and] at hsp
          subst hsp
          have each2 : ∀ i, i < len → ∃ cells Te fr x, w.heap[b]? = some (.cells cells Te fr) ∧ off + i * t.size + t.size ≤ cells.size ∧ DataW.trod enc P w 0 sp held n e (seg cells (off + i * t.size) t.size) = some x := by
            intro i hi
            obtain ⟨l, x, g1, g2⟩ := each i hi
            rw [addr_add] at g1
            obtain ⟨cells, Te, fr, k1, k2, k3⟩ := cells_seg g1 h2
            subst k3
            exact ⟨cells, Te, fr, x, k1, k2, g2⟩
          obtain ⟨cells, Te, fr, x, k1, k2, _⟩ := each2 (len - 1) (by omega)
          obtain ⟨ds, g1, g2, g3⟩ := list_of (p := t.wf) len t.dflt (fun i d => Pu w (fun _ => False) t d (seg cells (off + i * t.size) t.size)) fun i hi => by
            obtain ⟨cells', Te', fr', x', k1', k2', k3'⟩ := each2 i hi
            rw [k1] at k1'
            obtain ⟨rfl, _, _⟩ := (Obj.cells.injEq .. ▸ Option.some.inj k1')
            exact ih.1 n e _ _ h3 k3'
          have hmul : (len - 1) * t.size + t.size = len * t.size := by
            rw [← Nat.succ_mul]; congr 1; omega
          refine ⟨ds, ⟨some ⟨b, off, none⟩, cap, by rw [g1], by omega, .inr ⟨b, off, cells, Te, fr, rfl, fun h => h, k1, by rw [g1]; omega, fun i hi => g2 i (by omega)⟩⟩, by omega, g3⟩
    · cases ht
end
end Go.Ev

/- The row of a law: it holds if its function keeps its promise, and the promised answer is always true. -/
set_option linter.unusedVariables false
set_option linter.unusedSimpArgs false
namespace Go.Ev
open Go Go.ChangeShapes Go.WideShapes Go.ChangeAt Go.RowKit
open Go.ChangeMaps (open_string shut_string)

def SP.wf : (s : SP) → s.den → Prop
  | .pure t, x => t.wf x
  | .cons a b, x => a.wf x.1 ∧ b.wf x.2
  | _, _ => True

def parsB (P : Program) : SP → List TypeId → Bool
  | .nl, [] => true
  | .cons (.pure t) b, T :: r => tyB P t (.inl T) && Nat.blt T P.types.size && P.readableRec T && parsB P b r
  | _, _ => false

section
variable {H : Type} {enc : TypeId × Value → H} {P : Program} {w : World} {sp : Nat → Bool} {held : Bool}

theorem val_of {t : Ty} {T base : Nat} {v : Value} {d : DataW H} {p : List MemPlace} (ht : tyB P t (.inl T) = true) (hv : Value.okWide P w .any base T v) (h : DataW.Trod enc P w 0 sp held T v d p) :
    ∃ x : t.den, VTr w (· ∈ ([] : List Nat)) (.pure t) x v [] ∧ t.wf x := by
  have hF : (fun b : Nat => b ∈ ([] : List Nat)) = fun _ => False := by funext b; simp
  rw [hF]
  obtain ⟨fuel, hf⟩ := h
  have key := (trod_pu (enc := enc) (P := P) (w := w) (sp := sp) (held := held) t).1 fuel T _ _ ht hf
  obtain ⟨x, hx, wx⟩ := key
  refine ⟨x, ?_, wx⟩
  have leaf : t.agg = false → v.cells.toList = [v] → VTr w (fun _ => False) (.pure t) x v [] := by
    intro h1 h2
    rw [h2] at hx
    exact .inr ⟨h1, hx, rfl⟩
  have agg : t.agg = true → (∃ cs, v = .agg cs) → VTr w (fun _ => False) (.pure t) x v [] := by
    rintro h1 ⟨cs, rfl⟩
    exact .inl ⟨h1, cs.toList, by simp, hx, rfl⟩
  cases t with
  | int k =>
    simp only [tyB] at ht
    split at ht
    · rename_i hu; obtain ⟨n, rfl⟩ := okWide_int hu hv; exact leaf rfl rfl
    · cases ht
  | bool =>
    simp only [tyB] at ht
    split at ht
    · rename_i hu; obtain ⟨n, rfl⟩ := okWide_bool hu hv; exact leaf rfl rfl
    · cases ht
  | str =>
    simp only [tyB] at ht
    split at ht
    · rename_i hu; obtain ⟨n, rfl⟩ := okWide_string hu hv; exact leaf rfl rfl
    · cases ht
  | nl => simp [tyB] at ht
  | pair a b =>
    simp only [tyB] at ht
    split at ht
    · rename_i fs hu
      simp only [Value.okWide, hu] at hv
      obtain ⟨cs, hcs, _⟩ := hv
      exact agg rfl ⟨cs, hcs⟩
    · cases ht
  | arr n t =>
    simp only [tyB] at ht
    split at ht
    · rename_i m e hu
      simp only [Value.okWide, hu] at hv
      obtain ⟨cs, hcs, _⟩ := hv
      exact agg rfl ⟨cs, hcs⟩
    · cases ht
  | sl t =>
    simp only [tyB] at ht
    split at ht
    · rename_i e hu
      obtain ⟨a, len, cap, rfl⟩ := okWide_slice hu hv
      exact leaf rfl rfl
    · cases ht

theorem args_of {base : Nat} : ∀ {ps : SP} {Ts : List TypeId} {vs : List Value} {ds : List (DataW H)} {q : List MemPlace}, parsB P ps Ts = true → DataW.TrodAll enc P w 0 sp held Ts vs ds q →
    (∀ (j : Nat) t v, Ts[j]? = some t → vs[j]? = some v → Value.okWide P w .any base t v) → ∃ x : ps.den, Args w (· ∈ ([] : List Nat)) ps x vs [] ∧ ps.wf x := by
  intro ps
  induction ps with
  | nl =>
    intro Ts vs ds q hp h hok
    cases Ts with
    | nil =>
      obtain ⟨rfl, rfl, rfl⟩ := trodAll_nil h
      exact ⟨(), ⟨rfl, rfl⟩, trivial⟩
    | cons T r => simp [parsB] at hp
  | cons a b iha ihb =>
    intro Ts vs ds q hp h hok
    cases a with
    | pure t =>
      cases Ts with
      | nil => simp [parsB] at hp
      | cons T r =>
        simp only [parsB, Bool.and_eq_true] at hp
        obtain ⟨⟨⟨h1, _⟩, _⟩, h2⟩ := hp
        obtain ⟨v, vs', d, ds', p', q', rfl, rfl, rfl, hd, hrest⟩ := trodAll_cons h
        obtain ⟨x, hx, wx⟩ := val_of h1 (hok 0 T v rfl rfl) hd
        obtain ⟨y, hy, wy⟩ := ihb h2 hrest fun j t v h1 h2 => hok (j + 1) t v (by simpa using h1) (by simpa using h2)
        exact ⟨(x, y), ⟨v, vs', [], [], rfl, rfl, hx, hy⟩, wx, wy⟩
    | _ => cases Ts <;> simp [parsB] at hp
  | _ => intro Ts vs ds q hp h hok; cases Ts <;> simp [parsB] at hp

theorem trodAll_below (hl : laidOutB P = true) {W W' : World} (hb : Below W.heap.size W W') : ∀ {ps : SP} {Ts : List TypeId} {vs : List Value} {ds : List (DataW H)} {q : List MemPlace}, parsB P ps Ts = true →
    DataW.TrodAll enc P W 0 (fun _ => true) true Ts vs ds q → (∀ x ∈ q, x.block < W.heap.size) → DataW.TrodAll enc P W' 0 (fun b => decide (b < W.heap.size)) true Ts vs ds q := by
  intro ps
  induction ps with
  | nl =>
    intro Ts vs ds q hp h hq
    cases Ts with
    | nil => obtain ⟨rfl, rfl, rfl⟩ := trodAll_nil h; exact trodAll_mk0
    | cons T r => simp [parsB] at hp
  | cons a b iha ihb =>
    intro Ts vs ds q hp h hq
    cases a with
    | pure t =>
      cases Ts with
      | nil => simp [parsB] at hp
      | cons T r =>
        simp only [parsB, Bool.and_eq_true] at hp
        obtain ⟨⟨⟨_, h1⟩, h3⟩, h2⟩ := hp
        obtain ⟨v, vs', d, ds', p', q', rfl, rfl, rfl, hd, hrest⟩ := trodAll_cons h
        exact trodAll_cons_mk (Below.trod hl h3 (Nat.blt_eq.mp h1) hd hb fun x hx => hq x (List.mem_append_left _ hx)) (ihb h2 hrest fun x hx => hq x (List.mem_append_right _ hx))
    | _ => cases Ts <;> simp [parsB] at hp
  | _ => intro Ts vs ds q hp h hok; cases Ts <;> simp [parsB] at hp

/-- a function that hands back one bool -/
def Sig.bool (g : Sig) : Prop := ∀ (w : World) (F : Nat → Prop) (x : g.ps.den) (y : g.T) (rs : List Value) (bs : List Nat), Args w F g.rs (g.res x y) rs bs → ∃ b, rs = [.bool b]
/-- .. which is true -/
def Sig.says (g : Sig) (x : g.ps.den) (y : g.T) : Prop := ∀ (w : World) (F : Nat → Prop) (rs : List Value) (bs : List Nat), Args w F g.rs (g.res x y) rs bs → rs = [.bool true]

theorem says_true {w : World} {F : Nat → Prop} {rs : List Value} {bs : List Nat} (h : Args w F (.cons (.pure .bool) .nl) (true, ()) rs bs) : rs = [.bool true] := by
  obtain ⟨u, r, b1, b2, rfl, rfl, h1, rfl, rfl⟩ := h
  rcases h1 with ⟨h, _⟩ | ⟨_, h, hb⟩
  · simp [SP.agg, Ty.agg] at h
  · have h : [u] = [Value.bool true] := h
    exact h

theorem law_contract {f : FuncId} {fn : Func} {g : Sig} {s : ChangeSpec} (hM : Meets P f g) (hf : P.funcs[f]? = some fn) (hb : fn.body.isSome = true) (hname : (fn.name == "runtime.NumGoroutine") = false)
    (hl : laidOutB P = true) (hps : parsB P g.ps fn.params.toList = true) {Tb : TypeId} (hres : fn.resultTypes = #[Tb]) (hTb : P.underlying Tb = some .bool) (hvars : s.vars = [])
    (hspec : ∀ ds : List (DataW H), ds.length = fn.params.size → s.fn H ds = { results := [.lit (.bool true)], args := ds })
    (htrue : ∀ x, g.ps.wf x → ∃ y, g.m x = some y ∧ g.says x y)
    (W : World) (base : Nat) (args : Array Value) (ds gs : List (DataW H)) (before : List MemPlace)
    (hval : ∀ (j : Nat) t v, fn.params[j]? = some t → args[j]? = some v → Value.okWide P W .any base t v)
    (hW : DataW.Whole enc P fn.params.toList s.vars false W args.toList ds gs before) :
    Calls P f args W fun e W' => ∃ v, e = .returned v ∧ s.post enc P fn false true false false W args v W' := by
  have hlt := fun p hp => hW.lt p hp
  have hW' := hW
  obtain ⟨p, q, hA, hV, rfl, hfz, _⟩ := hW
  rw [hvars] at hV
  obtain ⟨rfl, rfl⟩ := trodVars_none hV
  obtain ⟨x, hx, wx⟩ := args_of hps hA fun j t v h1 h2 => hval j t v (by simpa using h1) (by simpa using h2)
  obtain ⟨y, hy, hsays⟩ := htrue x wx
  have hc := hM W x args.toList [] List.nodup_nil hx y hy
  unfold CallsF at hc
  rw [run_callFunc_body hf hb hname] at hc
  rw [show args.toList.toArray = args by simp] at hc
  refine hc.mono fun e W' he => ?_
  cases e with
  | returned v =>
    obtain ⟨rs, bs1, bs2, F⟩ := he
    have hrs := hsays _ _ _ _ F.rs
    have hv : v = .bool true := by rw [F.ret, hrs]; rfl
    subst hv
    have hB : Below W.heap.size W W' := ⟨F.fr.os, F.fr.tape, F.fr.output, F.fr.size, fun k hk => F.fr.block k hk (by simp)⟩
    have hlen : ds.length = fn.params.size := by
      have h := args_lens hA
      simpa using h
    have hsp := hspec (ds ++ []) (by simpa using hlen)
    refine ⟨_, rfl, ds, [], _, [], p, [], hW', ?_, ?_, ?_, hB.frame _, fun h => by cases h⟩
    · rw [hsp, hres]
      exact trodAll_mk1 (shut_bool hTb true)
    · rw [hsp]
      have := trodAll_below hl hB hps hA fun z hz => hlt z (List.mem_append_left _ hz)
      simpa using this
    · rw [hvars, hsp]
      rfl
  | _ => exact he.elim
 where
  args_lens {Ts : List TypeId} {vs : List Value} {ds : List (DataW H)} {q : List MemPlace} {W : World} {sp : Nat → Bool} (h : DataW.TrodAll enc P W 0 sp true Ts vs ds q) : ds.length = Ts.length := by
    induction Ts generalizing vs ds q with
    | nil => obtain ⟨rfl, rfl, rfl⟩ := trodAll_nil h; rfl
    | cons T r ih =>
      obtain ⟨v, vs', d, ds', p', q', rfl, rfl, rfl, hd, hrest⟩ := trodAll_cons h
      simp [ih hrest]
end
end Go.Ev
