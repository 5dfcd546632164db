/- Each operation of the evaluator tells what the machine's operation does: reads and writes of memory, numbers, strings. -/
import Derived.Test.YtfdgkmligadcnaaEv6
set_option linter.unusedVariables false
set_option linter.unusedSimpArgs false
namespace Go.Ev
open Go
section
variable {P : Program} {C : Cx} {W0 : World} {F0 : Base} {ρ : Nat → Option Loc} {s s' : St} {a : Act} {w : World}

theorem kind_agg {k : TK} {d : TypeDesc} (h : kindB k d = true) : k.agg = descAgg d := by
  cases k <;> cases d <;> simp_all [kindB, TK.agg, descAgg]
theorem seg_sub {cells : Array Value} {l k n m : Nat} (h : k + m ≤ n) : seg cells (l + k) m = ((seg cells l n).drop k).take m := by
  unfold seg
  rw [drop_take_drop_take _ _ _ _ _ h]
theorem out_if {α : Type} {c : Prop} [Decidable c] {p q : Pg α} {v : α} (h : (if c then p else q).Out s v s') : (c ∧ p.Out s v s') ∨ (¬ c ∧ q.Out s v s') := by
  by_cases hc : c
  · rw [if_pos hc] at h; exact .inl ⟨hc, h⟩
  · rw [if_neg hc] at h; exact .inr ⟨hc, h⟩
theorem out_bif {α : Type} {c : Bool} {p : Pg α} {v : α} (h : (bif c then p else .fail).Out s v s') : c = true ∧ p.Out s v s' := by
  cases c
  · exact h.elim
  · exact ⟨rfl, h⟩
theorem out_nif {α : Type} {c : Bool} {p : Pg α} {v : α} (h : (bif c then .fail else p).Out s v s') : c = false ∧ p.Out s v s' := by
  cases c
  · exact ⟨rfl, h⟩
  · exact h.elim
theorem out_ifp {α : Type} {c : Prop} [Decidable c] {p : Pg α} {v : α} (h : (if c then p else .fail).Out s v s') : c ∧ p.Out s v s' := by
  rcases out_if h with h | ⟨_, h⟩
  · exact h
  · exact h.elim
theorem out_tst {c : Prop} [Decidable c] {p : Pg AV} {v : AV} (h : (tst c p).Out s v s') : c ∧ p.Out s v s' := h

/-- an object that is alive, and where it lies -/
theorem Rep.at_ref (h : Rep W0 F0 ρ s a w) {o : Nat} {p : List PS} {x : Addr} {c : AV} (hx : AddrOf ⟨w, s.o, ρ⟩ o p x) (hc : s.o o = some c) (hd : c.dead = false) :
    ∃ l k e cells T fr cs, ρ o = some l ∧ Sh.off p c.sh = some (k, e) ∧ x = ⟨l.b, l.off + k, none⟩ ∧ w.heap[l.b]? = some (.cells cells T fr) ∧ Ce ⟨w, s.o, ρ⟩ c cs ∧ l.off + cs.length ≤ cells.size ∧ seg cells l.off cs.length = cs ∧
      Unfrozen fr l.off cells.size ∧ k + e.size ≤ cs.length := by
  obtain ⟨c', hc', hk⟩ := hx
  have : c' = c := by
    have h' : s.o o = some c' := hc'
    rw [hc] at h'; exact (Option.some.inj h').symm
  subst this
  rcases hk with hk | ⟨l, k, e, hl, ho, hx⟩
  · exact absurd hk (AV.dead_sh hd)
  · rcases h.ob o c' hc (AV.dead_sh hd) with ⟨l', cells, T, fr, cs, g1, g2, g3, g4, g5, g6⟩ | ⟨g1, _⟩
    · have e1 : l' = l := by
        have h1 : ρ o = some l' := g1
        have h2 : ρ o = some l := hl
        rw [h1] at h2; exact Option.some.inj h2
      subst e1
      exact ⟨l', k, e, cells, T, fr, cs, hl, ho, hx, g2, g3, g4, g5, g6, by have := off_le ho; rw [g3.len]; exact this⟩
    · have h1 : ρ o = none := g1
      have h2 : ρ o = some l := hl
      rw [h1] at h2; cases h2

theorem give_box (h : Rep W0 F0 ρ s a w) {o : Oper} {T d : Nat} {x : Operand} (hop : o.op = .box T x) {v : AV}
    (ho : (rdX x fun v => bif v.dead || bkB v then (.fail : Pg AV) else .new d v (.ret (.ref d []))).Out s v s') : Gives P W0 F0 o a w v s' := by
  obtain ⟨av, h1, ho⟩ := out_rdX h ho
  obtain ⟨hb, ho⟩ := out_nif ho
  simp only [Bool.or_eq_false_iff] at hb
  obtain ⟨hn, rfl, rfl⟩ := ho
  obtain ⟨hce, _⟩ := h1.cells (AV.dead_sh hb.1) (by rintro t xs rfl; simp [bkB] at hb)
  have hr := h.new (o := d) (c := av) (cs := (a.eval x).cells.toList) (cells := (a.eval x).cells) (T := T) (fr := (0, 0)) hn hce (by simp) (seg_all _) (fun i _ _ => by simp)
  refine ⟨.pointer (some ⟨w.heap.size, 0, none⟩), _, _, .inl ?_, hr, Val.leaf rfl ?_⟩
  · simp [execOp, hop, Instr.box, newVar, newRow]
  · refine ⟨_, rfl, av, by simp [St.setO_o], .inr ⟨⟨w.heap.size, 0⟩, 0, _, by simp [upd], rfl, by simp⟩⟩

theorem load_known (hD : DOk P C) {T : Nat} {v : AV} (hl : loadOk (C.D T) v = true) : v.sh ≠ .bad ∧ Nonempty (TOk P T (C.D T)) ∧ v.sh.size = (C.D T).size ∧ v.agg = (C.D T).k.agg ∧ (v.agg = false → v.sh = .leaf) := by
  simp only [loadOk, Bool.and_eq_true] at hl
  obtain ⟨h1, h2⟩ := hl
  have h1 := Nat.eq_of_beq_eq_true h1
  by_cases e : v.agg = true
  · rw [if_pos e] at h2
    refine ⟨by cases v <;> simp_all [AV.agg, AV.sh], ?_, h1, by rw [e, h2], fun e' => by rw [e] at e'; cases e'⟩
    refine tok_of_kind hD (fun e' => ?_)
    rw [e'] at h2; simp [TK.agg] at h2
  · rw [if_neg e] at h2
    simp only [Bool.and_eq_true, Bool.not_eq_true', decide_eq_true_eq] at h2
    have e' : v.agg = false := by simpa using e
    refine ⟨by rw [h2.2]; simp, ?_, h1, by rw [e', h2.1], fun _ => h2.2⟩
    rcases hD T with e | e
    · rw [e, h2.2] at h1; simp [TI.none, Sh.size] at h1
    · exact e

/-- a load of what lies in cells -/
theorem run_load_ce (hD : DOk P C) {T : Nat} {v : AV} (hl : loadOk (C.D T) v = true) {E : Env} {b off : Nat} {cells : Array Value} {T' : TypeId} {fr : Nat × Nat} (hb : w.heap[b]? = some (.cells cells T' fr))
    (hf : off + v.sh.size ≤ cells.size) (hc : Ce E v (seg cells off v.sh.size)) : ∃ u, (loadVar T ⟨b, off, none⟩).run P w = .ok u w ∧ Val E v u := by
  obtain ⟨h0, ⟨tk⟩, h2, h3, h4⟩ := load_known hD hl
  have hk := kind_agg tk.kind
  by_cases e : v.agg = true
  · refine ⟨_, run_loadVar_seg tk.hd tk.hi hb (by rw [tk.size, ← h2]; exact hf) (by rw [← hk, ← h3, e]), .inl (.inr (.inl ⟨e, _, rfl, ?_⟩))⟩
    rw [tk.size, ← h2]; exact hc
  · have e' : v.agg = false := by simpa using e
    have hs := h4 e'
    rw [hs] at hf hc
    simp only [Sh.size] at hf hc
    obtain ⟨u, hu⟩ : ∃ u, seg cells off 1 = [u] := by
      have := seg_length hf
      match hh : seg cells off 1, this with
      | [u], _ => exact ⟨u, rfl⟩
    exact ⟨u, run_loadVar_one tk.hd hb hu (by rw [← hk, ← h3, e']), Val.leaf hs (by rw [← hu]; exact hc)⟩

theorem give_load (hD : DOk P C) (h : Rep W0 F0 ρ s a w) {o : Oper} {T : Nat} {x : Operand} (hop : o.op = .load T x) {v : AV} (ho : (rdX x fun a => loadPg C T a).Out s v s') : Gives P W0 F0 o a w v s' := by
  obtain ⟨av, h1, ho⟩ := out_rdX h ho
  unfold loadPg at ho
  split at ho
  · rename_i q p
    obtain ⟨c, hc, hd, ho⟩ := ho
    dsimp only at ho
    split at ho
    · rename_i v' hv'
      obtain ⟨hl, rfl, rfl⟩ := out_bif ho
      obtain ⟨ad, hu, hx⟩ := h1.ref_eq
      obtain ⟨l, k, e, cells, T', fr, cs, g1, g2, g3, g4, g5, g6, g7, g8, g9⟩ := h.at_ref hx hc hd
      have hce := ce_at hv' g2 g5
      have hsh := at_off hv' g2
      have hseg : seg cells (l.off + k) v.sh.size = (cs.drop k).take e.size := by rw [hsh, seg_sub g9, g7]
      obtain ⟨u, hr, hval⟩ := run_load_ce (w := w) (E := ⟨w, s'.o, ρ⟩) hD hl g4 (off := l.off + k) (by rw [hsh]; omega) (by rw [hseg]; exact hce)
      refine ⟨u, w, ρ, .inl ?_, h, hval⟩
      simp [execOp, hop, hu, Instr.loadAt, Instr.sureAddr, g3, hr]
    · exact ho.elim
  · rename_i t y
    obtain ⟨hl, rfl, rfl⟩ := out_bif ho
    obtain ⟨ad, hu, b, off, cells, T', fr, hx, hF, hb, hs, hp⟩ := h1.pref_eq
    obtain ⟨u, hr, hval⟩ := run_load_ce (w := w) (E := ⟨w, s'.o, ρ⟩) hD hl hb (off := off) (by rw [toAV_size]; exact hs) (by rw [toAV_size]; exact ce_toAV hp)
    refine ⟨u, w, ρ, .inl ?_, h, hval⟩
    simp [execOp, hop, hu, Instr.loadAt, Instr.sureAddr, hx, hr]
  · exact ho.elim

/-- cells of an object written -/
theorem Rep.wr_part (h : Rep W0 F0 ρ s a w) {o : Nat} {c c' : AV} (hc : s.o o = some c) (hd : c.dead = false) {l : Loc} (hl : ρ o = some l) {cells : Array Value} {T : TypeId} {fr : Nat × Nat} {cs vs : List Value} {k : Nat}
    (hb : w.heap[l.b]? = some (.cells cells T fr)) (g5 : Ce ⟨w, s.o, ρ⟩ c cs) (g6 : l.off + cs.length ≤ cells.size) (g7 : seg cells l.off cs.length = cs) (g8 : Unfrozen fr l.off cells.size) (hk : k + vs.length ≤ cs.length)
    (hs : c'.sh = c.sh) (hc' : Ce ⟨w, s.o, ρ⟩ c' (spl cs k vs)) : Rep W0 F0 ρ (s.setO o c') a (w.setRow l.b (splA cells (l.off + k) vs)) := by
  refine h.wr hc (AV.dead_sh hd) hs hl hb (splA_size (by omega)).symm hc' (by rw [spl_length hk]; exact g6) ?_ g8
  rw [spl_length hk, seg_splA_same hk g6, g7]

theorem give_store (hD : DOk P C) (h : Rep W0 F0 ρ s a w) {o : Oper} {T : Nat} {x y : Operand} (hop : o.op = .store T x y) {v : AV} (ho : (rdX x fun a => rdX y fun v => storePg C T a v).Out s v s') : Gives P W0 F0 o a w v s' := by
  obtain ⟨av, h1, ho⟩ := out_rdX h ho
  obtain ⟨bv, h2, ho⟩ := out_rdX h ho
  unfold storePg at ho
  split at ho
  · rename_i q p _
    obtain ⟨c, hc, hd, ho⟩ := ho
    dsimp only at ho
    split at ho
    · rename_i c' hc'
      obtain ⟨hb, ⟨_, rfl, rfl⟩⟩ := out_bif ho
      simp only [Bool.and_eq_true, Bool.not_eq_true'] at hb
      obtain ⟨⟨⟨b1, b2⟩, b3⟩, b4⟩ := hb
      have b1 := Nat.eq_of_beq_eq_true b1
      obtain ⟨tk⟩ := tok_of_kind hD (T := T) (fun e => by rw [e] at b4; simp [TK.ok] at b4)
      obtain ⟨hce, _⟩ := h2.cells (AV.dead_sh b2) (by rintro t xs rfl; simp [bkB] at b3)
      obtain ⟨ad, hu, hx⟩ := h1.ref_eq
      obtain ⟨l, k, e, cells, T', fr, cs, g1, g2, g3, g4, g5, g6, g7, g8, g9⟩ := h.at_ref hx hc hd
      obtain ⟨p1, p2⟩ := ce_put hc' g2 g5 hce
      have hr := h.wr_part hc hd g1 g4 g5 g6 g7 g8 (by rw [p2]; exact g9) (put_sh hc') p1
      refine ⟨undef, _, ρ, .inr ⟨?_, rfl⟩, hr, Val.top _⟩
      have hlen := hce.len
      have hst := run_storeCells_spl (P := P) (b := l.b) (T := T') (fr := fr) (l.off + k) (a.eval y).cells.toList 0 cells w g4 (by rw [p2]; omega) (fun i hi hj => g8 i (by omega) hj) (ce_one hce)
      have hsz : (a.eval y).cells.size = tk.i.size := by rw [tk.size, ← b1, ← hlen]; simp
      simp [execOp, hop, hu, Instr.storeAt, Instr.sureAddr, g3, storeVar, run_sizeOf tk.hi, hsz, hst]
    · exact ho.elim
  · exact ho.elim

theorem give_nilCheck (h : Rep W0 F0 ρ s a w) {o : Oper} {x : Operand} (hop : o.op = .nilCheck x) {v : AV}
    (ho : (rdX x fun v => match v with | .ref o p => (.ret (.ref o p) : Pg AV) | .pref t x => .ret (.pref t x) | _ => .fail).Out s v s') : Gives P W0 F0 o a w v s' := by
  obtain ⟨av, h1, ho⟩ := out_rdX h ho
  split at ho
  · obtain ⟨rfl, rfl⟩ := ho
    obtain ⟨ad, hu, hx⟩ := h1.ref_eq
    exact ⟨a.eval x, w, ρ, .inl (by simp [execOp, hop, hu]), h, h1⟩
  · obtain ⟨rfl, rfl⟩ := ho
    obtain ⟨ad, hu, hx⟩ := h1.pref_eq
    exact ⟨a.eval x, w, ρ, .inl (by simp [execOp, hop, hu]), h, h1⟩
  · exact ho.elim

/-! numbers, strings, bools -/
theorem run_eqGuard_int (op : BinOp) (t : TypeId) (x y : Operand) (k k' : IntKind) (m n : Int) : (eqGuard op t x y (.int k m) (.int k' n)).run P w = .ok () w := by
  cases op <;> simp [eqGuard]
theorem run_eqGuard_str (op : BinOp) (t : TypeId) (x y : Operand) (m n : ByteArray) : (eqGuard op t x y (.string m) (.string n)).run P w = .ok () w := by
  cases op <;> simp [eqGuard]
theorem run_eqGuard_bool (op : BinOp) (t : TypeId) (x y : Operand) (m n : Bool) : (eqGuard op t x y (.bool m) (.bool n)).run P w = .ok () w := by
  cases op <;> simp [eqGuard]
theorem run_eqGuard_ptr (op : BinOp) (t : TypeId) (x y : Operand) (m n : Option Addr) : (eqGuard op t x y (.pointer m) (.pointer n)).run P w = .ok () w := by
  cases op <;> simp [eqGuard]

theorem give_binI (h : Rep W0 F0 ρ s a w) {o : Oper} {op : BinOp} {T T' : Nat} {x y : Operand} (hop : o.op = .binOp op T x y T') {k : IntKind} {m n : Int} (hx : a.eval x = .int k m) (hy : a.eval y = .int k n)
    (h1 : op ≠ .shl) (h2 : op ≠ .shr) {v : AV} (ho : (binI op k m n).Out s v s') : Gives P W0 F0 o a w v s' := by
  cases op <;> simp only [binI] at ho
  case shl => exact absurd rfl h1
  case shr => exact absurd rfl h2
  case quo =>
    obtain ⟨hn, rfl, rfl⟩ := ho
    exact ⟨_, w, ρ, .inl (by simp [execOp, hop, hx, hy, run_eqGuard_int, binOp, Op.intDiv, hn]), h, Val.mkInt _ _ _⟩
  case rem =>
    obtain ⟨hn, rfl, rfl⟩ := ho
    exact ⟨_, w, ρ, .inl (by simp [execOp, hop, hx, hy, run_eqGuard_int, binOp, Op.intDiv, hn]), h, Val.mkInt _ _ _⟩
  case add => obtain ⟨rfl, rfl⟩ := ho; exact ⟨_, w, ρ, .inl (by simp [execOp, hop, hx, hy, run_eqGuard_int, binOp, Op.intArith]), h, Val.mkInt _ _ _⟩
  case sub => obtain ⟨rfl, rfl⟩ := ho; exact ⟨_, w, ρ, .inl (by simp [execOp, hop, hx, hy, run_eqGuard_int, binOp, Op.intArith]), h, Val.mkInt _ _ _⟩
  case mul => obtain ⟨rfl, rfl⟩ := ho; exact ⟨_, w, ρ, .inl (by simp [execOp, hop, hx, hy, run_eqGuard_int, binOp, Op.intArith]), h, Val.mkInt _ _ _⟩
  case and => obtain ⟨rfl, rfl⟩ := ho; exact ⟨_, w, ρ, .inl (by simp [execOp, hop, hx, hy, run_eqGuard_int, binOp, Op.intBits]; rfl), h, Val.mkInt _ _ _⟩
  case or => obtain ⟨rfl, rfl⟩ := ho; exact ⟨_, w, ρ, .inl (by simp [execOp, hop, hx, hy, run_eqGuard_int, binOp, Op.intBits]; rfl), h, Val.mkInt _ _ _⟩
  case xor => obtain ⟨rfl, rfl⟩ := ho; exact ⟨_, w, ρ, .inl (by simp [execOp, hop, hx, hy, run_eqGuard_int, binOp, Op.intBits]; rfl), h, Val.mkInt _ _ _⟩
  case andNot => obtain ⟨rfl, rfl⟩ := ho; exact ⟨_, w, ρ, .inl (by simp [execOp, hop, hx, hy, run_eqGuard_int, binOp, Op.intBits, bandn]), h, Val.mkInt _ _ _⟩
  case eql => obtain ⟨rfl, rfl⟩ := ho; exact ⟨_, w, ρ, .inl (by simp [execOp, hop, hx, hy, run_eqGuard_int, binOp, Op.intCmp]), h, Val.mkBool _ _⟩
  case neq => obtain ⟨rfl, rfl⟩ := ho; exact ⟨_, w, ρ, .inl (by simp [execOp, hop, hx, hy, run_eqGuard_int, binOp, Op.intCmp]), h, Val.mkBool _ _⟩
  case lss => obtain ⟨rfl, rfl⟩ := ho; exact ⟨_, w, ρ, .inl (by simp [execOp, hop, hx, hy, run_eqGuard_int, binOp, Op.intCmp]), h, Val.mkBool _ _⟩
  case leq => obtain ⟨rfl, rfl⟩ := ho; exact ⟨_, w, ρ, .inl (by simp [execOp, hop, hx, hy, run_eqGuard_int, binOp, Op.intCmp]), h, Val.mkBool _ _⟩
  case gtr => obtain ⟨rfl, rfl⟩ := ho; exact ⟨_, w, ρ, .inl (by simp [execOp, hop, hx, hy, run_eqGuard_int, binOp, Op.intCmp]), h, Val.mkBool _ _⟩
  case geq => obtain ⟨rfl, rfl⟩ := ho; exact ⟨_, w, ρ, .inl (by simp [execOp, hop, hx, hy, run_eqGuard_int, binOp, Op.intCmp]), h, Val.mkBool _ _⟩

theorem give_binS (h : Rep W0 F0 ρ s a w) {o : Oper} {op : BinOp} {T T' : Nat} {x y : Operand} (hop : o.op = .binOp op T x y T') {m n : ByteArray} (hx : a.eval x = .string m) (hy : a.eval y = .string n)
    {v : AV} (ho : (binS op m n).Out s v s') : Gives P W0 F0 o a w v s' := by
  cases op <;> simp only [binS] at ho
  case add =>
    obtain ⟨hn, rfl, rfl⟩ := ho
    have : ¬ ((m.size + n.size : Nat) : Int) > IntKind.i64.max := by
      show ¬ (9223372036854775807 : Int) < _
      omega
    refine ⟨_, w, ρ, .inl (by simp [execOp, hop, hx, hy, run_eqGuard_str, binOp, Op.stringOp]; omega), h, Val.mkStr _ _⟩
  all_goals first
    | exact ho.elim
    | (obtain ⟨rfl, rfl⟩ := ho; exact ⟨_, w, ρ, .inl (by simp [execOp, hop, hx, hy, run_eqGuard_str, binOp, Op.stringOp, strEq, strLt]; done), h, Val.mkBool _ _⟩)

theorem give_shift (h : Rep W0 F0 ρ s a w) {o : Oper} {T T' : Nat} {x y : Operand} {k k' : IntKind} {m n : Int} (hx : a.eval x = .int k m) (hy : a.eval y = .int k' n) (hn : 0 ≤ n) :
    (o.op = .binOp .shl T x y T' → Gives P W0 F0 o a w (.int k (shlI k m n)) s) ∧ (o.op = .binOp .shr T x y T' → Gives P W0 F0 o a w (.int k (shrI k m n)) s) := by
  refine ⟨fun hop => ⟨_, w, ρ, .inl ?_, h, Val.mkInt _ _ _⟩, fun hop => ⟨_, w, ρ, .inl ?_, h, Val.mkInt _ _ _⟩⟩
  · simp [execOp, hop, hx, hy, run_eqGuard_int, binOp, Op.shift, show ¬ n < 0 by omega, shlI]
  · simp [execOp, hop, hx, hy, run_eqGuard_int, binOp, Op.shift, show ¬ n < 0 by omega, shrI]
end
end Go.Ev
