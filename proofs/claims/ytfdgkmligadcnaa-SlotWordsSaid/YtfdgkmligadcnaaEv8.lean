/- Each operation of the evaluator tells what the machine's operation does: tests, conversions, parts of slices, fields, elements. -/
import Derived.Test.YtfdgkmligadcnaaEv7
set_option linter.unusedVariables false
set_option linter.unusedSimpArgs false
namespace Go.Ev
open Go
section
variable {P : Program} {C : Cx} {W0 : World} {F0 : Base} {ρ : Nat → Option Loc} {s s' : St} {a : Act} {w : World}

theorem kindB_int {k : IntKind} {d : TypeDesc} (h : kindB (.int k) d = true) : d = .int k := by
  cases d <;> simp_all [kindB]
theorem kindB_bool {d : TypeDesc} (h : kindB .bool d = true) : d = .bool := by cases d <;> simp_all [kindB]
theorem kindB_str {d : TypeDesc} (h : kindB .str d = true) : d = .string := by cases d <;> simp_all [kindB]
theorem kindB_ptr {e : Nat} {d : TypeDesc} (h : kindB (.ptr e) d = true) : d = .pointer e := by
  cases d <;> simp [kindB] at h
  rw [h]
theorem kindB_sl {e : Nat} {d : TypeDesc} (h : kindB (.sl e) d = true) : d = .slice e := by
  cases d <;> simp [kindB] at h
  rw [h]
theorem kindB_arr {n e : Nat} {d : TypeDesc} (h : kindB (.arr n e) d = true) : d = .array n e := by
  cases d <;> simp [kindB] at h
  rw [h.1, h.2]
theorem kindB_st {fs : List (Nat × Nat)} {d : TypeDesc} (h : kindB (.st fs) d = true) : ∃ fields, d = .struct fields ∧ fields.toList.map (fun f => (f.type, f.offset)) = fs := by
  cases d <;> simp [kindB] at h
  exact ⟨_, rfl, h⟩

/-- the description of a type that the evaluator knows -/
theorem und (hD : DOk P C) {T : Nat} {k : TK} (hk : (C.D T).k = k) (ho : k ≠ .other) : ∃ d, P.underlying T = some d ∧ kindB k d = true := by
  obtain ⟨tk⟩ := tok_of_kind hD (T := T) (by rw [hk]; exact ho)
  exact ⟨tk.d, tk.hd, hk ▸ tk.kind⟩

theorem run_equal_bool {T : TypeId} (hd : P.underlying T = some .bool) (x y : Bool) : (Op.equal T (.bool x) (.bool y)).run P w = .ok (x == y) w := by
  unfold Op.equal
  show (Op.equalIn (9999 + 1) T (.bool x) (.bool y)).run P w = _
  unfold Op.equalIn
  simp only [Sem.run_bind, run_underlying hd, Result.andThen_ok]
  rfl

theorem give_bool (hD : DOk P C) (h : Rep W0 F0 ρ s a w) {o : Oper} {T T' : Nat} {x y : Operand} {m n : Bool} (hk : (C.D T).k = .bool) (hx : a.eval x = .bool m) (hy : a.eval y = .bool n) :
    (o.op = .binOp .eql T x y T' → Gives P W0 F0 o a w (.bool (m == n)) s) ∧ (o.op = .binOp .neq T x y T' → Gives P W0 F0 o a w (.bool (!(m == n))) s) := by
  obtain ⟨d, hd, hkd⟩ := und hD hk (by simp)
  rw [kindB_bool hkd] at hd
  refine ⟨fun hop => ⟨_, w, ρ, .inl ?_, h, Val.mkBool _ _⟩, fun hop => ⟨_, w, ρ, .inl ?_, h, Val.mkBool _ _⟩⟩
  · simp [execOp, hop, hx, hy, run_eqGuard_bool, binOp, run_equal_bool hd]
  · simp [execOp, hop, hx, hy, run_eqGuard_bool, binOp, run_equal_bool hd]

theorem run_equal_ptr {T e : TypeId} (hd : P.underlying T = some (.pointer e)) (x y : Option Addr) (hxy : x = none ∨ y = none) :
    (Op.equal T (.pointer x) (.pointer y)).run P w = .ok (x.isNone && y.isNone) w := by
  unfold Op.equal
  show (Op.equalIn (9999 + 1) T (.pointer x) (.pointer y)).run P w = _
  unfold Op.equalIn
  simp only [Sem.run_bind, run_underlying hd, Result.andThen_ok]
  rcases hxy with rfl | rfl
  · rfl
  · cases x <;> rfl

theorem give_ptr (hD : DOk P C) (h : Rep W0 F0 ρ s a w) {o : Oper} {T T' e : Nat} {x y : Operand} {m n : Option Addr} (hk : (C.D T).k = .ptr e) (hx : a.eval x = .pointer m) (hy : a.eval y = .pointer n) (hmn : m = none ∨ n = none) :
    (o.op = .binOp .eql T x y T' → Gives P W0 F0 o a w (.bool (m.isNone && n.isNone)) s) ∧ (o.op = .binOp .neq T x y T' → Gives P W0 F0 o a w (.bool (!(m.isNone && n.isNone))) s) := by
  obtain ⟨d, hd, hkd⟩ := und hD hk (by simp)
  rw [kindB_ptr hkd] at hd
  have he := run_equal_ptr (w := w) hd m n hmn
  refine ⟨fun hop => ⟨_, w, ρ, .inl ?_, h, Val.mkBool _ _⟩, fun hop => ⟨_, w, ρ, .inl ?_, h, Val.mkBool _ _⟩⟩
  · rcases hmn with rfl | rfl
    · cases n <;> simp [execOp, hop, hx, hy, run_eqGuard_ptr, binOp, he] <;> simp_all
    · cases m <;> simp [execOp, hop, hx, hy, run_eqGuard_ptr, binOp, he] <;> simp_all
  · rcases hmn with rfl | rfl
    · cases n <;> simp [execOp, hop, hx, hy, run_eqGuard_ptr, binOp, he] <;> simp_all
    · cases m <;> simp [execOp, hop, hx, hy, run_eqGuard_ptr, binOp, he] <;> simp_all

theorem give_unOp (h : Rep W0 F0 ρ s a w) {o : Oper} {op : UnOp} {T : Nat} {x : Operand} (hop : o.op = .unOp op T x) {v : AV} (ho : (rdX x fun a => unPg op a).Out s v s') : Gives P W0 F0 o a w v s' := by
  obtain ⟨av, h1, ho⟩ := out_rdX h ho
  unfold unPg at ho
  split at ho
  · obtain ⟨rfl, rfl⟩ := ho
    exact ⟨_, w, ρ, .inl (by simp [execOp, hop, h1.bool_eq, Op.unary]), h, Val.mkBool _ _⟩
  · obtain ⟨rfl, rfl⟩ := ho
    exact ⟨_, w, ρ, .inl (by simp [execOp, hop, h1.int_eq, Op.unary, Op.intArith]), h, Val.mkInt _ _ _⟩
  · exact ho.elim

/-! a plain value out of a slot; what was looked into is alive -/
theorem castL_cast {t u : Ty} {xs : List t.den} {ys : List u.den} (h : castL (u := u) xs = some ys) {w : World} {F : Nat → Prop} {n : Nat} {cs : List Value} (hp : Pu w F (.arr n t) xs cs) : Pu w F (.arr n u) ys cs ∧ xs.length = ys.length ∧ t = u := by
  obtain ⟨rfl, rfl⟩ := castL_some h
  exact ⟨hp, rfl, rfl⟩

theorem win_length {α : Type} (xs : List α) {off len : Int} (h0 : 0 ≤ off) (h1 : 0 ≤ len) (h : off + len ≤ xs.length) : ((win xs off len).length : Int) = len := by
  simp only [win, List.length_take, List.length_drop]; omega

theorem win_getD {t : Ty} (xs : List t.den) {off len : Int} (h0 : 0 ≤ off) {i : Nat} (hi : (i : Int) < len) : (win xs off len).getD i t.dflt = xs.getD (off.toNat + i) t.dflt := by
  simp only [win, List.getD, List.getElem?_take, List.getElem?_drop]
  rw [if_pos (by omega)]

/-- the cells of a window of a row -/
theorem pu_row {w : World} {F : Nat → Prop} {t : Ty} {n : Nat} {xs : List t.den} {cs : List Value} (hp : Pu w F (.arr n t) xs cs) {i : Nat} (hi : i < n) : Pu w F t (xs.getD i t.dflt) ((cs.drop (i * t.size)).take t.size) := hp.2.2 i hi

/-- the objects that were looked into but are not written: outside of 'own' -/
def Env.less (E : Env) (own : List Nat) : Nat → Prop := fun b => ∃ o c l, o ∈ own ∧ E.s o = some c ∧ c.sh ≠ .bad ∧ E.ρ o = some l ∧ l.b = b

theorem mul_succ_le {i n k : Nat} (h : i < n) : i * k + k ≤ n * k := by
  have := Nat.mul_le_mul_right k (Nat.succ_le_of_lt h)
  rwa [Nat.succ_mul] at this

/-- a slice's window of an object, as a slice that is only read -/
theorem pu_window (h : Rep W0 F0 ρ s a w) {F : Nat → Prop} {o : Nat} {c : AV} (hc : s.o o = some c) (hd : c.dead = false) (hF : ∀ b, F b → ∃ o' c' l', o' ≠ o ∧ s.o o' = some c' ∧ c'.sh ≠ .bad ∧ ρ o' = some l' ∧ l'.b = b)
    {l : Loc} {k : Nat} {t : Ty} {m : Nat} {xs : List t.den} {cs : List Value} {cells : Array Value} {T : TypeId} {fr : Nat × Nat} (g1 : ρ o = some l) (g4 : w.heap[l.b]? = some (.cells cells T fr)) (g6 : l.off + cs.length ≤ cells.size) (g7 : seg cells l.off cs.length = cs)
    (hk : k + m * t.size ≤ cs.length) (hp : Pu w (Env.F ⟨w, s.o, ρ⟩) (.arr m t) xs ((cs.drop k).take (m * t.size))) {off len : Int} (h0 : 0 ≤ off) (hm : off + len ≤ m)
    {n cap : Nat} (hn : (n : Int) = len) (hcap : n ≤ cap) {ad : Option Addr} (had : n = 0 ∨ ad = some ⟨l.b, l.off + k + off.toNat * t.size, none⟩) :
    Pu w F (.sl t) (win xs off len) [.slice ad n cap] := by
  have hlen : (win xs off len).length = n := by
    have := win_length xs (off := off) (len := len) h0 (by omega) (by rw [hp.1]; exact hm)
    omega
  refine ⟨ad, cap, by rw [hlen], by rw [hlen]; exact hcap, ?_⟩
  rcases had with e | e
  · left; exact List.eq_nil_of_length_eq_zero (by omega)
  · right
    refine ⟨l.b, _, cells, T, fr, e, ?_, g4, ?_, ?_⟩
    · intro hb
      obtain ⟨o', c', l', hne, e1, e2, e3, e4⟩ := hF _ hb
      exact hne (h.inj o' o c' c l' l e1 hc e2 (AV.dead_sh hd) e3 g1 e4)
    · rw [hlen]
      have : (off.toNat + n) * t.size ≤ m * t.size := Nat.mul_le_mul_right _ (by omega)
      rw [Nat.add_mul] at this
      omega
    · intro i hi
      rw [hlen] at hi
      rw [win_getD xs h0 (by omega)]
      have hi' : off.toNat + i < m := by omega
      have := pu_row hp hi'
      have hle := mul_succ_le (k := t.size) hi'
      rw [drop_take_drop_take _ _ _ _ _ hle] at this
      rw [Nat.add_mul] at this hle
      rw [show l.off + k + off.toNat * t.size + i * t.size = l.off + (k + (off.toNat * t.size + i * t.size)) by omega, seg_sub (n := cs.length) (by omega), g7]
      exact this.mono fun b x hb hx => ⟨hx, fun hFb => by
        obtain ⟨o', c', l', hne, e1, e2, e3, e4⟩ := hF _ hFb
        exact hb ⟨o', c', l', e1, e2, e3, e4⟩⟩
end
end Go.Ev
