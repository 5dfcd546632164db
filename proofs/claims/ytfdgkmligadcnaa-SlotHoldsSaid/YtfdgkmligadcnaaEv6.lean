/- Each operation of the evaluator tells what the machine's operation does. -/
import Derived.Test.YtfdgkmligadcnaaEv5
set_option linter.unusedVariables false
set_option linter.unusedSimpArgs false
namespace Go.Ev
open Go

/-! ### what a program of reads and writes comes to -/
def Pg.Out {α : Type} (s : St) : Pg α → α → St → Prop
  | .ret v, u, s' => u = v ∧ s' = s
  | .fail, _, _ => False
  | .rdT t f, u, s' => (f (s.t t)).Out s u s'
  | .rdO o f, u, s' => ∃ c, s.o o = some c ∧ c.dead = false ∧ (f c).Out s u s'
  | .wrO o c p, u, s' => (∃ d, s.o o = some d) ∧ p.Out (s.setO o c) u s'
  | .new o c p, u, s' => s.o o = none ∧ p.Out (s.setO o c) u s'
  | .br t p q, u, s' => ∃ b, s.t t = .bool b ∧ (if b then p.Out s u s' else q.Out s u s')
  | .test c d p, u, s' => c ∧ p.Out s u s'
  | .bind _ m f, u, s' => ∃ r, m = some r ∧ (f r).Out s u s'
  | .opt _ m p f, u, s' => (m = none ∧ p.Out s u s') ∨ ∃ r, m = some r ∧ (f r).Out s u s'

theorem AV.dead_sh {c : AV} (h : c.dead = false) : c.sh ≠ .bad := by cases c <;> simp_all [AV.dead, AV.sh]

/-! ### types -/
def kindB : TK → TypeDesc → Bool
  | .int k, .int k' => decide (k = k')
  | .bool, .bool => true
  | .str, .string => true
  | .ptr e, .pointer e' => Nat.beq e e'
  | .sl e, .slice e' => Nat.beq e e'
  | .arr n e, .array n' e' => Nat.beq n n' && Nat.beq e e'
  | .st fs, .struct fields => decide (fields.toList.map (fun f => (f.type, f.offset)) = fs)
  | .iface, .interface _ => true
  | _, _ => false

/-- a plain value without a slice that is not nil, by its cells -/
def puB : (t : Ty) → t.den → List Value → Bool
  | .int k, x, cs => match cs with | [.int k' y] => decide (k' = k) && decide (y = (x : Int)) | _ => false
  | .bool, x, cs => match cs with | [.bool y] => decide (y = (x : Bool)) | _ => false
  | .str, x, cs => match cs with | [.string y] => decide (y = (x : ByteArray)) | _ => false
  | .nl, _, cs => cs.isEmpty
  | .pair a b, x, cs => puB a x.1 (cs.take a.size) && puB b x.2 (cs.drop a.size)
  | .arr n t, xs, cs => Nat.beq (List.length xs) n && Nat.beq cs.length (n * t.size) && (List.range n).all fun i => puB t (xs.getD i t.dflt) ((cs.drop (i * t.size)).take t.size)
  | .sl _, xs, cs => List.isEmpty xs && (match cs with | [.slice none 0 0] => true | _ => false)
theorem pu_of_puB {w : World} {F : Nat → Prop} : ∀ {t : Ty} {x : t.den} {cs : List Value}, puB t x cs = true → Pu w F t x cs := by
  intro t
  induction t with
  | int k =>
    intro x cs h
    simp only [puB] at h
    split at h
    · simp at h; simp only [Pu]; rw [h.1, h.2]
    · cases h
  | bool =>
    intro x cs h
    simp only [puB] at h
    split at h
    · simp at h; simp only [Pu]; rw [h]
    · cases h
  | str =>
    intro x cs h
    simp only [puB] at h
    split at h
    · simp at h; simp only [Pu]; rw [h]
    · cases h
  | nl => intro x cs h; simpa [puB, Pu] using h
  | pair a b iha ihb =>
    intro x cs h
    simp only [puB, Bool.and_eq_true] at h
    exact ⟨iha h.1, ihb h.2⟩
  | arr n t ih =>
    intro x cs h
    simp only [puB, Bool.and_eq_true, List.all_eq_true, List.mem_range] at h
    exact ⟨Nat.eq_of_beq_eq_true h.1.1, Nat.eq_of_beq_eq_true h.1.2, fun i hi => ih (h.2 i hi)⟩
  | sl t ih =>
    intro x cs h
    simp only [puB, Bool.and_eq_true] at h
    have h0 : x = [] := by simpa using h.1
    subst h0
    have h2 := h.2
    split at h2
    · exact ⟨none, 0, rfl, by simp, .inl rfl⟩
    · cases h2

def ceB : AV → List Value → Bool
  | .int k n, cs => puB (.int k) n cs
  | .bool b, cs => puB .bool b cs
  | .str s, cs => puB .str s cs
  | .nilp, cs => match cs with | [.pointer none] => true | _ => false
  | .nils, cs => match cs with | [.slice none 0 0] => true | _ => false
  | .nili, cs => match cs with | [.nilIface] => true | _ => false
  | .lst t xs, cs => puB (.sl t) xs cs
  | .arr t n xs, cs => puB (.arr n t) xs cs
  | .nl, cs => cs.isEmpty
  | .cons h t, cs => ceB h (cs.take h.sh.size) && ceB t (cs.drop h.sh.size)
  | _, _ => false
theorem ce_of_ceB {E : Env} : ∀ {c : AV} {cs : List Value}, ceB c cs = true → Ce E c cs := by
  intro c
  induction c with
  | int k n => intro cs h; exact pu_of_puB (w := E.w) (F := E.F) (t := .int k) h
  | bool b => intro cs h; exact pu_of_puB (w := E.w) (F := E.F) (t := .bool) h
  | str s => intro cs h; exact pu_of_puB (w := E.w) (F := E.F) (t := .str) h
  | nilp => intro cs h; simp only [ceB] at h; split at h <;> first | rfl | cases h
  | nils => intro cs h; simp only [ceB] at h; split at h <;> first | rfl | cases h
  | nili => intro cs h; simp only [ceB] at h; split at h <;> first | rfl | cases h
  | lst t xs => intro cs h; exact pu_of_puB (w := E.w) (F := E.F) (t := .sl t) h
  | arr t n xs => intro cs h; exact pu_of_puB (w := E.w) (F := E.F) (t := .arr n t) h
  | nl => intro cs h; simpa [ceB, Ce] using h
  | cons a b iha ihb => intro cs h; simp only [ceB, Bool.and_eq_true] at h; exact ⟨iha h.1, ihb h.2⟩
  | _ => intro cs h; simp [ceB] at h

def aggV : Value → Bool
  | .agg _ => true
  | _ => false
def Ty.height : Ty → Nat
  | .pair a b => max a.height b.height + 1
  | .arr _ t => t.height + 1
  | _ => 1
def sizeB (P : Program) (T n : Nat) : Bool := match P.info? T with | some i => Nat.beq i.size n | none => false
/-- are values of the type T compared by '==' as plain values of the kind? (or: the fields from a place on) -/
def eqG (P : Program) : Ty → (TypeId ⊕ (List Field × Nat)) → Bool
  | .int k, .inl T => (match P.underlying T with | some (.int k') => decide (k' = k) | _ => false)
  | .bool, .inl T => (match P.underlying T with | some .bool => true | _ => false)
  | .str, .inl T => (match P.underlying T with | some .string => true | _ => false)
  | .pair a b, .inl T => (match P.underlying T with
    | some (.struct fs) => !P.stoodInHeld T && (match fs.toList with
      | f :: r => decide (f.name ≠ "_") && Nat.beq f.offset 0 && sizeB P f.type a.size && eqG P a (.inl f.type) && eqG P b (.inr (r, a.size))
      | [] => false)
    | _ => false)
  | .pair a b, .inr (f :: r, off) => decide (f.name ≠ "_") && Nat.beq f.offset off && sizeB P f.type a.size && eqG P a (.inl f.type) && eqG P b (.inr (r, off + a.size))
  | .nl, .inr ([], _) => true
  | .arr n t, .inl T => (match P.underlying T with
    | some (.array m e) => Nat.beq m n && sizeB P e t.size && eqG P t (.inl e)
    | _ => false)
  | _, _ => false
def tiB (P : Program) (T : Nat) (ti : TI) : Bool := match P.info? T with
  | none => false
  | some i => match P.underlying T with
    | none => false
    | some d => Nat.beq i.size ti.size && Nat.beq i.bytes ti.bytes && kindB ti.k d &&
      (match i.zero with
        | none => false
        | some z => (ti.zero.dead || (ceB ti.zero z.cells.toList && decide (ti.zero.agg = aggV z) && (ti.zero.agg || decide (ti.zero.sh = .leaf)))) &&
          (match ti.ty with
            | none => true
            | some t => Nat.beq t.size ti.size && puB t t.dflt z.cells.toList && Nat.beq z.cells.size ti.size && decide (ti.k.agg = aggV z) &&
              (!ti.eq || (eqG P t (.inl T) && !P.eqGuardType P.depth T && Nat.ble t.height 5000))))

structure TOk (P : Program) (T : Nat) (ti : TI) where
  i : TypeInfo
  d : TypeDesc
  z : Value
  hi : P.info? T = some i
  hd : P.underlying T = some d
  size : i.size = ti.size
  bytes : i.bytes = ti.bytes
  kind : kindB ti.k d = true
  hz : i.zero = some z
  zero : ti.zero.dead = false → (∀ E, Ce E ti.zero z.cells.toList) ∧ ti.zero.agg = aggV z ∧ (ti.zero.agg = false → ti.zero.sh = .leaf)
  ty : ∀ t, ti.ty = some t → t.size = ti.size ∧ z.cells.size = ti.size ∧ ∀ w F, Pu w F t t.dflt z.cells.toList
  eq : ∀ t, ti.ty = some t → ti.eq = true → eqG P t (.inl T) = true ∧ P.eqGuardType P.depth T = false ∧ t.height ≤ 5000

theorem tok_of_tiB {P : Program} {T : Nat} {ti : TI} (h : tiB P T ti = true) : Nonempty (TOk P T ti) := by
  unfold tiB at h
  split at h
  · cases h
  · rename_i i hi
    split at h
    · cases h
    · rename_i d hd
      simp only [Bool.and_eq_true] at h
      obtain ⟨⟨⟨h1, h2⟩, h3⟩, h4⟩ := h
      split at h4
      · cases h4
      · rename_i z hz
        simp only [Bool.and_eq_true, Bool.or_eq_true, decide_eq_true_eq] at h4
        refine ⟨⟨i, d, z, hi, hd, Nat.eq_of_beq_eq_true h1, Nat.eq_of_beq_eq_true h2, h3, hz, fun hdead => ?_, fun t ht => ?_, fun t ht he => ?_⟩⟩
        · rcases h4.1 with h | ⟨⟨h, h'⟩, h''⟩
          · rw [h] at hdead; cases hdead
          · refine ⟨fun E => ce_of_ceB h, h', fun e => ?_⟩
            rcases h'' with h'' | h''
            · rw [h''] at e; cases e
            · exact h''
        · have h5 := h4.2
          rw [ht] at h5
          simp only [Bool.and_eq_true, decide_eq_true_eq] at h5
          exact ⟨Nat.eq_of_beq_eq_true h5.1.1.1.1, Nat.eq_of_beq_eq_true h5.1.1.2, fun w F => pu_of_puB h5.1.1.1.2⟩
        · have h5 := h4.2
          rw [ht] at h5
          simp only [Bool.and_eq_true, Bool.or_eq_true, Bool.not_eq_true'] at h5
          rcases h5.2 with h6 | h6
          · rw [he] at h6; cases h6
          · exact ⟨h6.1.1, h6.1.2, Nat.le_of_ble_eq_true h6.2⟩

/-- the types that the evaluator knows are the program's -/
def DOk (P : Program) (C : Cx) : Prop := ∀ T, C.D T = TI.none ∨ Nonempty (TOk P T (C.D T))

section
variable {P : Program} {C : Cx} {W0 : World} {F0 : Base} {ρ : Nat → Option Loc} {s s' : St} {a : Act} {w : World}

theorem tok_of_kind (hD : DOk P C) {T : Nat} (h : (C.D T).k ≠ .other) : Nonempty (TOk P T (C.D T)) := by
  rcases hD T with e | e
  · rw [e] at h; exact absurd rfl h
  · exact e

theorem seg_all (c : Array Value) : seg c 0 c.toList.length = c.toList := by
  unfold seg; rw [List.drop_zero, List.take_length]

/-! ### operands -/
theorem val_const (E : Env) (c : Value) : Val E (ofConst c) c := by
  unfold ofConst
  split
  · exact Val.leaf rfl rfl
  · exact Val.leaf rfl rfl
  · exact Val.leaf rfl rfl
  · exact Val.leaf rfl rfl
  · exact Val.leaf rfl rfl
  · exact Val.leaf rfl rfl
  · exact Val.top _

theorem out_rdX {α : Type} (h : Rep W0 F0 ρ s a w) {x : Operand} {k : AV → Pg α} {v : α} (ho : (rdX x k).Out s v s') : ∃ av, Val ⟨w, s.o, ρ⟩ av (a.eval x) ∧ (k av).Out s v s' := by
  cases x with
  | tmp t => exact ⟨s.t t, h.tm t, ho⟩
  | const c => exact ⟨ofConst c, val_const _ c, ho⟩
  | func f => exact ⟨.fn f, Val.leaf rfl rfl, ho⟩
  | global g => exact ho.elim

def Vals (E : Env) : List AV → List Value → Prop
  | [], us => us = []
  | v :: r, us => ∃ u us', us = u :: us' ∧ Val E v u ∧ Vals E r us'
theorem Ext.vals {E E' : Env} (h : Ext E E') : ∀ {vs : List AV} {us : List Value}, Vals E vs us → Vals E' vs us
  | [], _, k => k
  | _ :: _, _, ⟨u, us', e, k1, k2⟩ => ⟨u, us', e, h.val k1, h.vals k2⟩
theorem out_rdXs {α : Type} (h : Rep W0 F0 ρ s a w) : ∀ {xs : List Operand} {k : List AV → Pg α} {v : α}, (rdXs xs k).Out s v s' → ∃ vs, Vals ⟨w, s.o, ρ⟩ vs (xs.map a.eval) ∧ (k vs).Out s v s'
  | [], k, v, ho => ⟨[], rfl, ho⟩
  | x :: r, k, v, ho => by
    obtain ⟨av, h1, h2⟩ := out_rdX h ho
    obtain ⟨vs, h3, h4⟩ := out_rdXs h h2
    exact ⟨av :: vs, ⟨_, _, rfl, h1, h3⟩, h4⟩
theorem out_rdXo {α : Type} (h : Rep W0 F0 ρ s a w) {x : Option Operand} {k : Option AV → Pg α} {v : α} (ho : (rdXo x k).Out s v s') :
    (x = none ∧ (k none).Out s v s') ∨ ∃ y av, x = some y ∧ Val ⟨w, s.o, ρ⟩ av (a.eval y) ∧ (k (some av)).Out s v s' := by
  cases x with
  | none => exact .inl ⟨rfl, ho⟩
  | some y => obtain ⟨av, h1, h2⟩ := out_rdX h ho; exact .inr ⟨y, av, rfl, h1, h2⟩

/-- the operation gives a value (no new state is looked into) -/
def Gives (P : Program) (W0 : World) (F0 : Base) (o : Oper) (a : Act) (w : World) (v : AV) (s' : St) : Prop :=
  ∃ u w' ρ', ((execOp a.eval o).run P w = .ok (.value u) w' ∨ ((execOp a.eval o).run P w = .ok .skip w' ∧ u = undef)) ∧ Rep W0 F0 ρ' s' a w' ∧ Val ⟨w', s'.o, ρ'⟩ v u

theorem Val.int_eq {E : Env} {k : IntKind} {n : Int} {u : Value} (h : Val E (.int k n) u) : u = .int k n := by
  have := h.ce rfl; simpa [Ce] using this
theorem Val.bool_eq {E : Env} {b : Bool} {u : Value} (h : Val E (.bool b) u) : u = .bool b := by
  have := h.ce rfl; simpa [Ce] using this
theorem Val.str_eq {E : Env} {b : ByteArray} {u : Value} (h : Val E (.str b) u) : u = .string b := by
  have := h.ce rfl; simpa [Ce] using this
theorem Val.ref_eq {E : Env} {o : Nat} {p : List PS} {u : Value} (h : Val E (.ref o p) u) : ∃ x, u = .pointer (some x) ∧ AddrOf E o p x := by
  have := h.ce rfl; simpa [Ce] using this
theorem Val.pref_eq {E : Env} {t : Ty} {x : t.den} {u : Value} (h : Val E (.pref t x) u) : ∃ y, u = .pointer (some y) ∧ PrefOf E t x y := by
  have := h.ce rfl; simpa [Ce] using this
theorem Val.nilp_eq {E : Env} {u : Value} (h : Val E .nilp u) : u = .pointer none := by
  have := h.ce rfl; simpa [Ce] using this
theorem Val.nils_eq {E : Env} {u : Value} (h : Val E .nils u) : u = .slice none 0 0 := by
  have := h.ce rfl; simpa [Ce] using this
theorem Val.view_eq {E : Env} {o : Nat} {p : List PS} {off len : Int} {u : Value} (h : Val E (.view o p off len) u) : ViewOf E o p off len u := by
  have := h.ce rfl; simpa [Ce] using this
theorem Val.full_eq {E : Env} {o : Nat} {u : Value} (h : Val E (.full o) u) : FullOf E o u := by
  have := h.ce rfl; simpa [Ce] using this
theorem Val.lst_eq {E : Env} {t : Ty} {xs : List t.den} {u : Value} (h : Val E (.lst t xs) u) : Pu E.w E.F (.sl t) xs [u] := h.ce rfl

theorem Val.mkInt (E : Env) (k : IntKind) (n : Int) : Val E (.int k n) (.int k n) := Val.leaf rfl rfl
theorem Val.mkBool (E : Env) (b : Bool) : Val E (.bool b) (.bool b) := Val.leaf rfl rfl
theorem Val.mkStr (E : Env) (b : ByteArray) : Val E (.str b) (.string b) := Val.leaf rfl rfl

theorem give_move (h : Rep W0 F0 ρ s a w) {o : Oper} {x : Operand} (hop : o.op = .move x ∨ o.op = .assign x) {v : AV} (ho : (rdX x (.ret : AV → Pg AV)).Out s v s') : Gives P W0 F0 o a w v s' := by
  obtain ⟨av, h1, h2⟩ := out_rdX h ho
  obtain ⟨rfl, rfl⟩ := h2
  refine ⟨a.eval x, w, ρ, .inl ?_, h, h1⟩
  rcases hop with e | e <;> simp [execOp, e]

theorem give_pick (h : Rep W0 F0 ρ s a w) {o : Oper} {t : Nat} {x y : Operand} (hop : o.op = .pick (.tmp t) x y) {v : AV}
    (ho : (Pg.br t (rdX x (.ret : AV → Pg AV)) (rdX y .ret)).Out s v s') : Gives P W0 F0 o a w v s' := by
  obtain ⟨b, hb, ho⟩ := ho
  have ht := h.tm t
  rw [hb] at ht
  have hb' : a.eval (.tmp t) = .bool b := ht.bool_eq
  cases b with
  | true =>
    obtain ⟨av, h1, h2⟩ := out_rdX h ho
    obtain ⟨rfl, rfl⟩ := h2
    exact ⟨a.eval x, w, ρ, .inl (by simp [execOp, hop, hb', asBool]), h, h1⟩
  | false =>
    obtain ⟨av, h1, h2⟩ := out_rdX h ho
    obtain ⟨rfl, rfl⟩ := h2
    exact ⟨a.eval y, w, ρ, .inl (by simp [execOp, hop, hb', asBool]), h, h1⟩

theorem give_alloc (hD : DOk P C) (h : Rep W0 F0 ρ s a w) {o : Oper} {T d : Nat} (hop : o.op = .alloc T) {v : AV} (hdead : (C.D T).zero.dead = false)
    (ho : (Pg.new d (C.D T).zero (.ret (.ref d []))).Out s v s') : Gives P W0 F0 o a w v s' := by
  obtain ⟨hn, rfl, rfl⟩ := ho
  rcases hD T with e | tk
  · rw [e] at hdead; simp [TI.none, AV.dead] at hdead
  · obtain ⟨tk⟩ := tk
    obtain ⟨hz, hagg, _⟩ := tk.zero hdead
    have hce := hz ⟨w, s.o, ρ⟩
    have hr := h.new (o := d) (c := (C.D T).zero) (cs := tk.z.cells.toList) (cells := tk.z.cells) (T := T) (fr := (0, 0)) hn hce (by simp) (seg_all _) (fun i _ _ => by simp)
    refine ⟨.pointer (some ⟨w.heap.size, 0, none⟩), _, _, .inl ?_, hr, Val.leaf rfl ?_⟩
    · simp [execOp, hop, Instr.alloc, run_zeroValue tk.hi tk.hz, newVar, newRow]
    · refine ⟨_, rfl, (C.D T).zero, by simp [St.setO_o], .inr ⟨⟨w.heap.size, 0⟩, 0, _, by simp [upd], rfl, by simp⟩⟩
end
end Go.Ev
