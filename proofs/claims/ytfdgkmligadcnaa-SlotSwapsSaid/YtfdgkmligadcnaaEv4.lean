/- A state of the evaluator holds of a frame and a world; what keeps this. -/
import Derived.Test.YtfdgkmligadcnaaEv3
set_option linter.unusedVariables false
set_option linter.unusedSimpArgs false
namespace Go.Ev
open Go

theorem hp_old (w : World) (o : Obj) (i : Nat) (h : i < w.heap.size) : (w.alloc o).heap[i]? = w.heap[i]? := by
  show (w.heap.push o)[i]? = w.heap[i]?
  rw [Array.getElem?_push, if_neg (Nat.ne_of_lt h)]
theorem hp_new (w : World) (o : Obj) : (w.alloc o).heap[w.heap.size]? = some o := by
  show (w.heap.push o)[w.heap.size]? = some o
  simp
theorem look_cons (j : Nat) (v : AV) (r : List (Nat × AV)) (i : Nat) : look ((j, v) :: r) i = if j = i then v else look r i := by
  simp only [look]
  by_cases h : j = i
  · simp [h]
  · have : Nat.beq j i = false := by rw [Bool.eq_false_iff]; intro e; exact h (Nat.eq_of_beq_eq_true e)
    simp [h, this]
theorem look?_cons (j : Nat) (v : AV) (r : List (Nat × AV)) (i : Nat) : look? ((j, v) :: r) i = if j = i then some v else look? r i := by
  simp only [look?]
  by_cases h : j = i
  · simp [h]
  · have : Nat.beq j i = false := by rw [Bool.eq_false_iff]; intro e; exact h (Nat.eq_of_beq_eq_true e)
    simp [h, this]
theorem St.setT_t (s : St) (d : Nat) (v : AV) (i : Nat) : (s.setT d v).t i = if d = i then v else s.t i := look_cons _ _ _ _
theorem St.setO_o (s : St) (d : Nat) (v : AV) (i : Nat) : (s.setO d v).o i = if d = i then some v else s.o i := look?_cons _ _ _ _
@[simp] theorem St.setT_o (s : St) (d : Nat) (v : AV) : (s.setT d v).o = s.o := rfl
@[simp] theorem St.setO_t (s : St) (d : Nat) (v : AV) : (s.setO d v).t = s.t := rfl
@[simp] theorem St.setT_n (s : St) (d : Nat) (v : AV) : (s.setT d v).n = s.n := rfl
@[simp] theorem St.setO_n (s : St) (d : Nat) (v : AV) : (s.setO d v).n = s.n := rfl

/-- what was there when the function began, but for the blocks F0, is as it was -/
structure Fr (W0 : World) (F0 : Nat → Prop) (w : World) : Prop where
  os : w.os = W0.os
  tape : w.tape = W0.tape
  output : w.output = W0.output
  size : W0.heap.size ≤ w.heap.size
  block : ∀ b, b < W0.heap.size → ¬ F0 b → w.heap[b]? = W0.heap[b]?
  keep : ∀ (b : Nat) (cells : Array Value) (T : TypeId) (fr : Nat × Nat), W0.heap[b]? = some (Obj.cells cells T fr) → ∃ (cells' : Array Value) (fr' : Nat × Nat), w.heap[b]? = some (Obj.cells cells' T fr') ∧ cells.size ≤ cells'.size

theorem Fr.refl (W : World) (F : Nat → Prop) : Fr W F W := ⟨rfl, rfl, rfl, Nat.le_refl _, fun _ _ _ => rfl, fun b cells T fr h => ⟨cells, fr, h, Nat.le_refl _⟩⟩

theorem keep_setRow {w : World} {b : Nat} {cells cells' : Array Value} {T : TypeId} {fr : Nat × Nat} (hb : w.heap[b]? = some (.cells cells T fr)) (hz : cells.size = cells'.size) {W0 : World}
    (h : ∀ (b : Nat) (cells : Array Value) (T : TypeId) (fr : Nat × Nat), W0.heap[b]? = some (Obj.cells cells T fr) → ∃ (cells' : Array Value) (fr' : Nat × Nat), w.heap[b]? = some (Obj.cells cells' T fr') ∧ cells.size ≤ cells'.size) :
    ∀ (q : Nat) (cl : Array Value) (T : TypeId) (fr : Nat × Nat), W0.heap[q]? = some (Obj.cells cl T fr) → ∃ (cl' : Array Value) (fr' : Nat × Nat), (w.setRow b cells').heap[q]? = some (Obj.cells cl' T fr') ∧ cl.size ≤ cl'.size := by
  intro q cl T' fr' hq
  obtain ⟨c1, f1, h1, h2⟩ := h q cl T' fr' hq
  by_cases e : q = b
  · subst e
    rw [hb] at h1
    cases h1
    exact ⟨cells', fr, setRow_heap w q cells cells' T fr hb, by omega⟩
  · exact ⟨c1, f1, by rw [setRow_other w b q cells' e]; exact h1, h2⟩

def Unfrozen (fr : Nat × Nat) (lo hi : Nat) : Prop := ∀ i, lo ≤ i → i < hi → ¬ (fr.1 ≤ i ∧ i < fr.2)

def ObOK (E : Env) (o : Nat) (c : AV) : Prop :=
  (∃ l cells T fr cs, E.ρ o = some l ∧ E.w.heap[l.b]? = some (.cells cells T fr) ∧ Ce E c cs ∧ l.off + cs.length ≤ cells.size ∧ seg cells l.off cs.length = cs ∧
    Unfrozen fr l.off cells.size) ∨ (E.ρ o = none ∧ ∃ t, c = .bk t [])

/-- what a function was handed: the blocks that are its own, and what its arguments are -/
structure Base where
  F : Nat → Prop
  fx : List (AV × Value)

structure Rep (W0 : World) (F0 : Base) (ρ : Nat → Option Loc) (s : St) (a : Act) (w : World) : Prop where
  size : a.tmps.size = s.n
  defers : a.defers = []
  tm : ∀ t, Val ⟨w, s.o, ρ⟩ (s.t t) (a.tmps.getD t undef)
  ob : ∀ o c, s.o o = some c → c.sh ≠ .bad → ObOK ⟨w, s.o, ρ⟩ o c
  inj : ∀ o o' c c' l l', s.o o = some c → s.o o' = some c' → c.sh ≠ .bad → c'.sh ≠ .bad → ρ o = some l → ρ o' = some l' → l.b = l'.b → o = o'
  own : ∀ o c l, s.o o = some c → c.sh ≠ .bad → ρ o = some l → F0.F l.b ∨ W0.heap.size ≤ l.b
  fr : Fr W0 F0.F w
  fx : ∀ p, p ∈ F0.fx → Val ⟨w, s.o, ρ⟩ p.1 p.2

section
variable {W0 : World} {F0 : Base} {ρ : Nat → Option Loc} {s : St} {a : Act} {w : World}

theorem Rep.setT (h : Rep W0 F0 ρ s a w) {d : Nat} {v : AV} {u : Value} (hd : d < s.n) (hv : Val ⟨w, s.o, ρ⟩ v u) : Rep W0 F0 ρ (s.setT d v) (a.put (some d) u) w := by
  refine ⟨by simpa [Act.put] using h.size, by simpa [Act.put] using h.defers, fun t => ?_, h.ob, h.inj, h.own, h.fr, h.fx⟩
  rw [St.setT_t]
  by_cases e : d = t
  · subst e
    rw [if_pos rfl]
    have : (a.put (some d) u).tmps.getD d undef = u := by simp [Act.put, Array.getD, h.size, hd]
    rw [this]; exact hv
  · rw [if_neg e]
    have : (a.put (some d) u).tmps.getD t undef = a.tmps.getD t undef := by
      simp [Act.put, Array.getD_eq_getD_getElem?, Array.getElem?_setIfInBounds_ne e]
    rw [this]; exact h.tm t

/-- what is known of a slot may be said again -/
theorem Rep.know (h : Rep W0 F0 ρ s a w) {d : Nat} {v : AV} (hv : Val ⟨w, s.o, ρ⟩ v (a.tmps.getD d undef)) : Rep W0 F0 ρ (s.setT d v) a w := by
  refine ⟨h.size, h.defers, fun t => ?_, h.ob, h.inj, h.own, h.fr, h.fx⟩
  rw [St.setT_t]
  by_cases e : d = t
  · subst e; rw [if_pos rfl]; exact hv
  · rw [if_neg e]; exact h.tm t

/-- states that look alike -/
theorem Rep.congr {s' : St} (h : Rep W0 F0 ρ s a w) (hn : s'.n = s.n) (ht : ∀ t, s'.t t = s.t t) (ho : s'.o = s.o) : Rep W0 F0 ρ s' a w := by
  refine ⟨by rw [hn]; exact h.size, h.defers, fun t => by rw [ht, ho]; exact h.tm t, ?_, ?_, ?_, h.fr, by rw [ho]; exact h.fx⟩
  · rw [ho]; exact h.ob
  · rw [ho]; exact h.inj
  · rw [ho]; exact h.own

/-- the world has turned in nothing that is told -/
theorem Rep.world {w' : World} (h : Rep W0 F0 ρ s a w) (hh : w'.heap = w.heap) (h1 : w'.os = w.os) (h2 : w'.tape = w.tape) (h3 : w'.output = w.output) : Rep W0 F0 ρ s a w' := by
  have hE : Ext ⟨w, s.o, ρ⟩ ⟨w', s.o, ρ⟩ := by
    have := Ext.refl ⟨w', s.o, ρ⟩
    refine ⟨fun b o hF hb => ⟨by show w'.heap[b]? = _; rw [hh]; exact hb, hF⟩, fun o c hc => ⟨c, hc, ?_⟩⟩
    by_cases hb : c.sh = .bad
    · exact .inl hb
    · exact .inr ⟨hb, rfl, rfl, fun l cells T fr _ hl => ⟨cells, fr, by show w'.heap[l.b]? = _; rw [hh]; exact hl, Nat.le_refl _⟩⟩
  refine ⟨h.size, h.defers, fun t => hE.val (h.tm t), fun o c hc hs => ?_, h.inj, h.own, ?_, fun p hp => hE.val (h.fx p hp)⟩
  · rcases h.ob o c hc hs with ⟨l, cells, T, fr, cs, h1, h2, h3, h4, h5, h6⟩ | h1
    · exact .inl ⟨l, cells, T, fr, cs, h1, by show w'.heap[l.b]? = _; rw [hh]; exact h2, hE.ce h3, h4, h5, h6⟩
    · exact .inr h1
  · exact ⟨h1.trans h.fr.os, h2.trans h.fr.tape, h3.trans h.fr.output, by rw [hh]; exact h.fr.size, fun b hb hF => by rw [hh]; exact h.fr.block b hb hF, fun b cells T fr hb => by rw [hh]; exact h.fr.keep b cells T fr hb⟩

def upd (ρ : Nat → Option Loc) (o : Nat) (l : Option Loc) : Nat → Option Loc := fun i => if i = o then l else ρ i

/-- an object more -/
theorem ext_new {o : Nat} (hab : s.o o = none) (hdom : ∀ x c l, s.o x = some c → c.sh ≠ .bad → ρ x = some l → l.b < w.heap.size) (c : AV) (ob : Obj) (l : Option Loc) (hl : ∀ x, l = some x → x.b = w.heap.size) :
    Ext ⟨w, s.o, ρ⟩ ⟨w.alloc ob, (s.setO o c).o, upd ρ o l⟩ := by
  refine ⟨fun b x hF hb => ?_, fun x d hd => ?_⟩
  · have hlt : b < w.heap.size := (Array.getElem?_eq_some_iff.1 hb).1
    refine ⟨by show (w.alloc ob).heap[b]? = _; rw [hp_old w ob b hlt]; exact hb, ?_⟩
    rintro ⟨x, d, k, hx, hd, hk, rfl⟩
    simp only [St.setO_o] at hx
    by_cases e : o = x
    · subst e
      simp only [upd, if_true] at hk
      have := hl k hk
      omega
    · rw [if_neg e] at hx
      simp only [upd, if_neg (Ne.symm e)] at hk
      exact hF ⟨x, d, k, hx, hd, hk, rfl⟩
  · have e : o ≠ x := fun e => by subst e; simp [hab] at hd
    refine ⟨d, by simp only [St.setO_o]; rw [if_neg e]; exact hd, ?_⟩
    by_cases hb : d.sh = .bad
    · exact .inl hb
    · refine .inr ⟨hb, rfl, by simp [upd, Ne.symm e], fun l cells T fr hl hh => ⟨cells, fr, ?_, Nat.le_refl _⟩⟩
      have hlt : l.b < w.heap.size := (Array.getElem?_eq_some_iff.1 hh).1
      show (w.alloc ob).heap[l.b]? = _
      rw [hp_old w ob _ hlt]; exact hh

theorem Rep.dom (h : Rep W0 F0 ρ s a w) : ∀ x c l, s.o x = some c → c.sh ≠ .bad → ρ x = some l → l.b < w.heap.size := by
  intro x c l hx hc hl
  rcases h.ob x c hx hc with ⟨l', cells, T, fr, cs, h1, h2, _⟩ | ⟨h1, _⟩
  · have h1' : ρ x = some l' := h1
    have : l' = l := by simpa [h1'] using hl
    subst this
    exact (Array.getElem?_eq_some_iff.1 h2).1
  · have h1' : ρ x = none := h1
    simp [h1'] at hl

theorem Rep.new (h : Rep W0 F0 ρ s a w) {o : Nat} {c : AV} {cs : List Value} {cells : Array Value} {T : TypeId} {fr : Nat × Nat} (hab : s.o o = none) (hc : Ce ⟨w, s.o, ρ⟩ c cs)
    (hl : cs.length ≤ cells.size) (hs : seg cells 0 cs.length = cs) (hf : Unfrozen fr 0 cells.size) :
    Rep W0 F0 (upd ρ o (some ⟨w.heap.size, 0⟩)) (s.setO o c) a (w.alloc (.cells cells T fr)) := by
  have hE := ext_new (o := o) hab h.dom c (.cells cells T fr) (some ⟨w.heap.size, 0⟩) (fun x hx => by cases hx; rfl)
  refine ⟨h.size, h.defers, fun t => hE.val (h.tm t), fun x d hx hd => ?_, ?_, ?_, ?_, fun p hp => hE.val (h.fx p hp)⟩
  · simp only [St.setO_o] at hx
    by_cases e : o = x
    · subst e
      rw [if_pos rfl] at hx
      cases hx
      refine .inl ⟨⟨w.heap.size, 0⟩, cells, T, fr, cs, by simp [upd], hp_new _ _, hE.ce hc, by simpa using hl, hs, by simpa using hf⟩
    · rw [if_neg e] at hx
      rcases h.ob x d hx hd with ⟨l, cells', T', fr', cs', h1, h2, h3, h4, h5, h6⟩ | h1
      · have hlt : l.b < w.heap.size := (Array.getElem?_eq_some_iff.1 h2).1
        exact .inl ⟨l, cells', T', fr', cs', by simp [upd, Ne.symm e]; exact h1, by show (w.alloc _).heap[l.b]? = _; rw [hp_old _ _ _ hlt]; exact h2, hE.ce h3, h4, h5, h6⟩
      · exact .inr ⟨by simp [upd, Ne.symm e]; exact h1.1, h1.2⟩
  · intro x x' d d' l l' hx hx' hd hd' hl hl' hb
    simp only [St.setO_o] at hx hx'
    by_cases e : o = x <;> by_cases e' : o = x'
    · rw [← e, ← e']
    · exfalso
      rw [if_neg e'] at hx'
      simp only [upd, Ne.symm e', if_false] at hl'
      simp only [upd, e, if_true, Option.some.injEq] at hl
      have := h.dom x' d' l' hx' hd' hl'
      subst hl; simp at hb; omega
    · exfalso
      rw [if_neg e] at hx
      simp only [upd, Ne.symm e, if_false] at hl
      simp only [upd, e', if_true, Option.some.injEq] at hl'
      have := h.dom x d l hx hd hl
      subst hl'; simp at hb; omega
    · rw [if_neg e] at hx; rw [if_neg e'] at hx'
      simp only [upd, Ne.symm e, if_false] at hl
      simp only [upd, Ne.symm e', if_false] at hl'
      exact h.inj x x' d d' l l' hx hx' hd hd' hl hl' hb
  · intro x d l hx hd hl
    simp only [St.setO_o] at hx
    by_cases e : o = x
    · simp only [upd, e, if_true, Option.some.injEq] at hl
      subst hl
      exact .inr h.fr.size
    · rw [if_neg e] at hx
      simp only [upd, Ne.symm e, if_false] at hl
      exact h.own x d l hx hd hl
  · refine ⟨h.fr.os, h.fr.tape, h.fr.output, by have := h.fr.size; simp; omega, fun b hb hF => ?_, fun b cl T' fr' hb => ?_⟩
    · rw [hp_old _ _ _ (by have := h.fr.size; omega)]
      exact h.fr.block b hb hF
    · obtain ⟨c1, f1, h1, h2⟩ := h.fr.keep b cl T' fr' hb
      exact ⟨c1, f1, by rw [hp_old _ _ _ (Array.getElem?_eq_some_iff.1 h1).1]; exact h1, h2⟩

/-- a row of nothing -/
theorem Rep.newNil (h : Rep W0 F0 ρ s a w) {o : Nat} (t : Ty) (hab : s.o o = none) : Ext ⟨w, s.o, ρ⟩ ⟨w, (s.setO o (.bk t [])).o, upd ρ o none⟩ ∧ Rep W0 F0 (upd ρ o none) (s.setO o (.bk t [])) a w := by
  have hE : Ext ⟨w, s.o, ρ⟩ ⟨w, (s.setO o (.bk t [])).o, upd ρ o none⟩ := by
    refine ⟨fun b x hF hb => ⟨hb, ?_⟩, fun x d hd => ?_⟩
    · rintro ⟨x, d, k, hx, hd, hk, rfl⟩
      simp only [St.setO_o] at hx
      by_cases e : o = x
      · simp [upd, e] at hk
      · rw [if_neg e] at hx
        simp only [upd, if_neg (Ne.symm e)] at hk
        exact hF ⟨x, d, k, hx, hd, hk, rfl⟩
    · have e : o ≠ x := fun e => by subst e; simp [hab] at hd
      refine ⟨d, by simp only [St.setO_o]; rw [if_neg e]; exact hd, ?_⟩
      by_cases hb : d.sh = .bad
      · exact .inl hb
      · exact .inr ⟨hb, rfl, by simp [upd, Ne.symm e], fun l cells T fr hl hh => ⟨cells, fr, hh, Nat.le_refl _⟩⟩
  refine ⟨hE, h.size, h.defers, fun t => hE.val (h.tm t), fun x d hx hd => ?_, ?_, ?_, h.fr, fun p hp => hE.val (h.fx p hp)⟩
  · simp only [St.setO_o] at hx
    by_cases e : o = x
    · subst e
      rw [if_pos rfl] at hx
      cases hx
      exact .inr ⟨by simp [upd], t, rfl⟩
    · rw [if_neg e] at hx
      rcases h.ob x d hx hd with ⟨l, cells', T', fr', cs', h1, h2, h3, h4, h5, h6⟩ | h1
      · exact .inl ⟨l, cells', T', fr', cs', by simp [upd, Ne.symm e]; exact h1, h2, hE.ce h3, h4, h5, h6⟩
      · exact .inr ⟨by simp [upd, Ne.symm e]; exact h1.1, h1.2⟩
  · intro x x' d d' l l' hx hx' hd hd' hl hl' hb
    simp only [St.setO_o] at hx hx'
    by_cases e : o = x
    · simp [upd, e] at hl
    · by_cases e' : o = x'
      · simp [upd, e'] at hl'
      · rw [if_neg e] at hx; rw [if_neg e'] at hx'
        simp only [upd, Ne.symm e, if_false] at hl
        simp only [upd, Ne.symm e', if_false] at hl'
        exact h.inj x x' d d' l l' hx hx' hd hd' hl hl' hb
  · intro x d l hx hd hl
    simp only [St.setO_o] at hx
    by_cases e : o = x
    · simp [upd, e] at hl
    · rw [if_neg e] at hx
      simp only [upd, Ne.symm e, if_false] at hl
      exact h.own x d l hx hd hl

/-- an object is given up -/
theorem Rep.kill (h : Rep W0 F0 ρ s a w) {o : Nat} {c : AV} (hc : s.o o = some c) : Ext ⟨w, s.o, ρ⟩ ⟨w, (s.setO o .top).o, ρ⟩ ∧ Rep W0 F0 ρ (s.setO o .top) a w := by
  have hE : Ext ⟨w, s.o, ρ⟩ ⟨w, (s.setO o .top).o, ρ⟩ := by
    refine ⟨fun b x hF hb => ⟨hb, ?_⟩, fun x d hd => ?_⟩
    · rintro ⟨x, d, k, hx, hd, hk, rfl⟩
      simp only [St.setO_o] at hx
      by_cases e : o = x
      · rw [if_pos e] at hx; cases hx; simp [AV.sh] at hd
      · rw [if_neg e] at hx; exact hF ⟨x, d, k, hx, hd, hk, rfl⟩
    · by_cases e : o = x
      · exact ⟨.top, by simp [St.setO_o, e], .inl rfl⟩
      · refine ⟨d, by simp only [St.setO_o]; rw [if_neg e]; exact hd, ?_⟩
        by_cases hb : d.sh = .bad
        · exact .inl hb
        · exact .inr ⟨hb, rfl, rfl, fun l cells T fr hl hh => ⟨cells, fr, hh, Nat.le_refl _⟩⟩
  have back : ∀ x d, (s.setO o .top).o x = some d → d.sh ≠ .bad → s.o x = some d := by
    intro x d hx hd
    simp only [St.setO_o] at hx
    by_cases e : o = x
    · rw [if_pos e] at hx; cases hx; simp [AV.sh] at hd
    · rw [if_neg e] at hx; exact hx
  refine ⟨hE, h.size, h.defers, fun t => hE.val (h.tm t), fun x d hx hd => ?_, ?_, ?_, h.fr, fun p hp => hE.val (h.fx p hp)⟩
  · rcases h.ob x d (back x d hx hd) hd with ⟨l, cells', T', fr', cs', h1, h2, h3, h4, h5, h6⟩ | h1
    · exact .inl ⟨l, cells', T', fr', cs', h1, h2, hE.ce h3, h4, h5, h6⟩
    · exact .inr h1
  · intro x x' d d' l l' hx hx' hd hd'
    exact h.inj x x' d d' l l' (back x d hx hd) (back x' d' hx' hd') hd hd'
  · intro x d l hx hd
    exact h.own x d l (back x d hx hd) hd

/-- the cells of an object are written; its skeleton stays -/
theorem ext_wr (h : Rep W0 F0 ρ s a w) {o : Nat} {c c' : AV} (hc : s.o o = some c) (hs : c.sh ≠ .bad) (hs' : c'.sh = c.sh) {l : Loc} (hl : ρ o = some l) {cells cells' : Array Value} {T : TypeId} {fr : Nat × Nat}
    (hb : w.heap[l.b]? = some (.cells cells T fr)) (hz : cells.size = cells'.size) : Ext ⟨w, s.o, ρ⟩ ⟨w.setRow l.b cells', (s.setO o c').o, ρ⟩ := by
  refine ⟨fun b x hF hx => ?_, fun x d hd => ?_⟩
  · have hne : b ≠ l.b := fun e => hF ⟨o, c, l, hc, hs, hl, e.symm⟩
    refine ⟨by show (w.setRow l.b cells').heap[b]? = _; rw [setRow_other w l.b b cells' hne]; exact hx, ?_⟩
    rintro ⟨y, d, k, hy, hd, hk, rfl⟩
    simp only [St.setO_o] at hy
    by_cases e : o = y
    · subst e; exact hF ⟨o, c, k, hc, hs, hk, rfl⟩
    · rw [if_neg e] at hy; exact hF ⟨y, d, k, hy, hd, hk, rfl⟩
  · have hblk : ∀ (k : Loc) (cl : Array Value) (T' : TypeId) (fr' : Nat × Nat), w.heap[k.b]? = some (.cells cl T' fr') → ∃ cl' fr'', (w.setRow l.b cells').heap[k.b]? = some (.cells cl' T' fr'') ∧ cl.size ≤ cl'.size := by
      intro k cl T' fr' hk
      by_cases e : k.b = l.b
      · rw [e] at hk ⊢
        rw [hb] at hk
        cases hk
        exact ⟨cells', fr, setRow_heap w l.b cells cells' T fr hb, by omega⟩
      · exact ⟨cl, fr', by rw [setRow_other w l.b k.b cells' e]; exact hk, Nat.le_refl _⟩
    by_cases e : o = x
    · subst e
      have hd' : s.o o = some d := hd
      rw [hc] at hd'; cases hd'
      exact ⟨c', by simp [St.setO_o], .inr ⟨hs, hs', rfl, fun k cl T' fr' _ hk => hblk k cl T' fr' hk⟩⟩
    · refine ⟨d, by simp only [St.setO_o]; rw [if_neg e]; exact hd, ?_⟩
      by_cases hb' : d.sh = .bad
      · exact .inl hb'
      · exact .inr ⟨hb', rfl, rfl, fun k cl T' fr' _ hk => hblk k cl T' fr' hk⟩

theorem Rep.wr (h : Rep W0 F0 ρ s a w) {o : Nat} {c c' : AV} (hc : s.o o = some c) (hs : c.sh ≠ .bad) (hs' : c'.sh = c.sh) {l : Loc} (hl : ρ o = some l) {cells cells' : Array Value} {T : TypeId} {fr : Nat × Nat}
    (hb : w.heap[l.b]? = some (.cells cells T fr)) (hz : cells.size = cells'.size) {cs : List Value} (hc' : Ce ⟨w, s.o, ρ⟩ c' cs) (h4 : l.off + cs.length ≤ cells.size) (h5 : seg cells' l.off cs.length = cs)
    (h6 : Unfrozen fr l.off cells.size) :
    Rep W0 F0 ρ (s.setO o c') a (w.setRow l.b cells') := by
  have hE := ext_wr h hc hs hs' hl hb hz
  have back : ∀ x d, (s.setO o c').o x = some d → d.sh ≠ .bad → ∃ d', s.o x = some d' ∧ d'.sh ≠ .bad := by
    intro x d hx hd
    simp only [St.setO_o] at hx
    by_cases e : o = x
    · subst e; exact ⟨c, hc, hs⟩
    · rw [if_neg e] at hx; exact ⟨d, hx, hd⟩
  refine ⟨h.size, h.defers, fun t => hE.val (h.tm t), fun x d hx hd => ?_, ?_, ?_, ?_, fun p hp => hE.val (h.fx p hp)⟩
  · simp only [St.setO_o] at hx
    by_cases e : o = x
    · subst e
      rw [if_pos rfl] at hx
      cases hx
      exact .inl ⟨l, cells', T, fr, cs, hl, setRow_heap w l.b cells cells' T fr hb, hE.ce hc', by omega, h5, hz ▸ h6⟩
    · rw [if_neg e] at hx
      rcases h.ob x d hx hd with ⟨k, cl, T', fr', cs', g1, g2, g3, g4, g5, g6⟩ | h1
      · have hne : k.b ≠ l.b := fun e' => e (h.inj x o d c k l hx hc hd hs g1 hl e').symm
        exact .inl ⟨k, cl, T', fr', cs', g1, by show (w.setRow l.b cells').heap[k.b]? = _; rw [setRow_other w l.b k.b cells' hne]; exact g2, hE.ce g3, g4, g5, g6⟩
      · exact .inr h1
  · intro x x' d d' k k' hx hx' hd hd'
    obtain ⟨e, he, hes⟩ := back x d hx hd
    obtain ⟨e', he', hes'⟩ := back x' d' hx' hd'
    exact h.inj x x' e e' k k' he he' hes hes'
  · intro x d k hx hd
    obtain ⟨e, he, hes⟩ := back x d hx hd
    exact h.own x e k he hes
  · refine ⟨h.fr.os, h.fr.tape, h.fr.output, by simp; exact h.fr.size, fun b hb' hF => ?_, keep_setRow hb hz h.fr.keep⟩
    have hne : b ≠ l.b := by
      rintro rfl
      rcases h.own o c l hc hs hl with g | g
      · exact hF g
      · omega
    rw [setRow_other w l.b b cells' hne]
    exact h.fr.block b hb' hF

end
end Go.Ev
