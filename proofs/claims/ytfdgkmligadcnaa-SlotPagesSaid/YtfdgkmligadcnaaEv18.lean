/- '==' of structs and arrays. -/
import Derived.Test.YtfdgkmligadcnaaEv17
import Derived.ChangeKeysEq
set_option linter.unusedVariables false
set_option linter.unusedSimpArgs false
namespace Go.Ev
open Go
section
variable {P : Program} {C : Cx} {W0 : World} {F0 : Base} {ρ : Nat → Option Loc} {s s' : St} {a : Act} {w : World}

theorem sizeB_spec {T n : Nat} (h : sizeB P T n = true) : ∃ i, P.info? T = some i ∧ i.size = n := by
  unfold sizeB at h
  split at h
  · rename_i i hi; exact ⟨i, hi, Nat.eq_of_beq_eq_true h⟩
  · cases h

def Ty.isAgg : Ty → Bool
  | .pair _ _ => true
  | .nl => true
  | .arr _ _ => true
  | _ => false
/-- a plain value as one value -/
def IsVal (t : Ty) (cs : List Value) (u : Value) : Prop := if t.isAgg then u = .agg cs.toArray else cs = [u]

theorem eqG_agg {t : Ty} {T : TypeId} (h : eqG P t (.inl T) = true) : ∃ d, P.underlying T = some d ∧ descAgg d = t.isAgg := by
  cases t <;> simp only [eqG] at h
  case sl => cases h
  case nl => cases h
  all_goals
    split at h
    · rename_i hu; exact ⟨_, hu, rfl⟩
    · cases h

theorem run_part_val {F : Nat → Prop} {t : Ty} {T : TypeId} (hg : eqG P t (.inl T) = true) (hs : sizeB P T t.size = true) {xs : Array Value} {off : Nat} {x : t.den} (hf : off + t.size ≤ xs.size) (hp : Pu w F t x ((xs.toList.drop off).take t.size)) :
    ∃ u, (part T xs off).run P w = .ok u w ∧ IsVal t ((xs.toList.drop off).take t.size) u := by
  obtain ⟨d, hd, hag⟩ := eqG_agg hg
  obtain ⟨i, hi, hsz⟩ := sizeB_spec hs
  by_cases e : t.isAgg = true
  · refine ⟨.agg (xs.extract off (off + i.size)), ?_, ?_⟩
    · simp [part, run_isAgg hd, hag, e, run_sizeOf hi]
    · unfold IsVal
      rw [if_pos e, hsz]
      congr 1
      apply Array.ext'
      simp [Array.toList_extract, List.extract_eq_take_drop]
  · have e' : t.isAgg = false := by simpa using e
    have h1 : t.size = 1 := by cases t <;> simp_all [Ty.isAgg, Ty.size]
    rw [h1] at hf
    have hlt : off < xs.size := by omega
    refine ⟨xs[off], ?_, ?_⟩
    · simp [part, run_isAgg hd, hag, e', hlt]
    · unfold IsVal
      rw [if_neg e, h1, List.take_one]
      simp [hlt]

theorem run_eqG {F : Nat → Prop} : ∀ {t : Ty},
    (∀ {T : TypeId} {d : Nat} {x y : t.den} {cs ds : List Value} {u v : Value} {w : World}, eqG P t (.inl T) = true → t.height ≤ d → Pu w F t x cs → Pu w F t y ds → IsVal t cs u → IsVal t ds v → (Op.equalIn d T u v).run P w = .ok (Ty.beq t x y) w) ∧
    (∀ {fs : List Field} {off d : Nat} {x y : t.den} {xs ys : Array Value} {w : World}, eqG P t (.inr (fs, off)) = true → t.height ≤ d + 1 → off + t.size ≤ xs.size → off + t.size ≤ ys.size → Pu w F t x ((xs.toList.drop off).take t.size) → Pu w F t y ((ys.toList.drop off).take t.size) →
      (Op.eqFields d xs ys fs).run P w = .ok (Ty.beq t x y) w) := by
  intro t
  induction t with
  | int k =>
    refine ⟨fun {T d x y cs ds u v w} hg hd hx hy hu hv => ?_, fun hg => by simp [eqG] at hg⟩
    simp only [IsVal, Ty.isAgg, Bool.false_eq_true, if_false] at hu hv
    simp only [Pu] at hx hy
    subst hx hy
    simp at hu hv
    subst hu hv
    simp only [eqG] at hg
    split at hg
    · rename_i k' hk
      obtain ⟨d, rfl⟩ : ∃ m, d = m + 1 := ⟨d - 1, by simp [Ty.height] at hd; omega⟩
      exact run_equalIn_int w d _ k k' _ _ hk
    · cases hg
  | bool =>
    refine ⟨fun {T d x y cs ds u v w} hg hd hx hy hu hv => ?_, fun hg => by simp [eqG] at hg⟩
    simp only [IsVal, Ty.isAgg, Bool.false_eq_true, if_false] at hu hv
    simp only [Pu] at hx hy
    subst hx hy
    simp at hu hv
    subst hu hv
    simp only [eqG] at hg
    split at hg
    · rename_i hk
      obtain ⟨d, rfl⟩ : ∃ m, d = m + 1 := ⟨d - 1, by simp [Ty.height] at hd; omega⟩
      exact run_equalIn_bool' w d _ _ _ hk
    · cases hg
  | str =>
    refine ⟨fun {T d x y cs ds u v w} hg hd hx hy hu hv => ?_, fun hg => by simp [eqG] at hg⟩
    simp only [IsVal, Ty.isAgg, Bool.false_eq_true, if_false] at hu hv
    simp only [Pu] at hx hy
    subst hx hy
    simp at hu hv
    subst hu hv
    simp only [eqG] at hg
    split at hg
    · rename_i hk
      obtain ⟨d, rfl⟩ : ∃ m, d = m + 1 := ⟨d - 1, by simp [Ty.height] at hd; omega⟩
      exact run_equalIn_string w d _ _ _ hk
    · cases hg
  | nl =>
    refine ⟨fun hg => by simp [eqG] at hg, fun {fs off d x y xs ys w} hg _ _ _ _ _ => ?_⟩
    cases fs with
    | nil => rfl
    | cons f r => simp [eqG] at hg
  | sl t ih => exact ⟨fun hg => by simp [eqG] at hg, fun hg => by simp [eqG] at hg⟩
  | pair A B iha ihb =>
    have fieldsStep : ∀ {f : Field} {r : List Field} {off d : Nat} {x y : A.den × B.den} {xs ys : Array Value} {w : World}, f.name ≠ "_" → f.offset = off → sizeB P f.type A.size = true → eqG P A (.inl f.type) = true → eqG P B (.inr (r, off + A.size)) = true →
        A.height ≤ d → B.height ≤ d + 1 → off + (A.size + B.size) ≤ xs.size → off + (A.size + B.size) ≤ ys.size → Pu w F (.pair A B) x ((xs.toList.drop off).take (A.size + B.size)) → Pu w F (.pair A B) y ((ys.toList.drop off).take (A.size + B.size)) →
        (Op.eqFields d xs ys (f :: r)).run P w = .ok (Ty.beq A x.1 y.1 && Ty.beq B x.2 y.2) w := by
      intro f r off d x y xs ys w hn ho hs ha hb hda hdb hfx hfy hx hy
      have x1 := hx.1
      have x2 := hx.2
      have y1 := hy.1
      have y2 := hy.2
      rw [List.take_take, Nat.min_eq_left (by omega)] at x1 y1
      rw [List.drop_take, List.drop_drop, show A.size + B.size - A.size = B.size by omega] at x2 y2
      obtain ⟨u, hu, hu'⟩ := run_part_val (w := w) ha hs (xs := xs) (off := off) (by omega) x1
      obtain ⟨v, hv, hv'⟩ := run_part_val (w := w) ha hs (xs := ys) (off := off) (by omega) y1
      have he := iha.1 (d := d) ha hda x1 y1 hu' hv'
      have hr := ihb.2 (d := d) (xs := xs) (ys := ys) (w := w) hb hdb (by omega) (by omega) x2 y2
      simp only [Op.eqFields]
      rw [if_pos hn]
      simp only [Sem.run_bind, ho, hu, hv, he, Result.andThen_ok]
      cases Ty.beq A x.1 y.1
      · simp
      · simp [hr]
    refine ⟨fun {T d x y cs ds u v w} hg hd hx hy hu hv => ?_, fun {fs off d x y xs ys w} hg hd hfx hfy hx hy => ?_⟩
    · simp only [eqG] at hg
      split at hg
      · rename_i fs hfs
        simp only [Bool.and_eq_true, Bool.not_eq_true'] at hg
        obtain ⟨hst, hg⟩ := hg
        split at hg
        · rename_i f r hfr
          simp only [Bool.and_eq_true, decide_eq_true_eq] at hg
          obtain ⟨⟨⟨⟨g1, g2⟩, g3⟩, g4⟩, g5⟩ := hg
          simp only [IsVal, Ty.isAgg, if_true] at hu hv
          subst hu hv
          have hl1 := hx.len
          have hl2 := hy.len
          simp only [Ty.size] at hl1 hl2
          simp only [Ty.height] at hd
          obtain ⟨d, rfl⟩ : ∃ m, d = m + 1 := ⟨d - 1, by omega⟩
          have hfo : P.fieldsOf T = fs := by unfold Program.fieldsOf; rw [hfs]
          rw [run_equalIn_struct w d T _ _ (by rw [hfo]; exact hfs) hst, hfo, hfr]
          have := fieldsStep (xs := cs.toArray) (ys := ds.toArray) (x := x) (y := y) (w := w) (d := d) (off := 0) (f := f) (r := r) g1 (Nat.eq_of_beq_eq_true g2) g3 g4 (by rw [Nat.zero_add]; exact g5) (by omega) (by omega) (by simp; omega) (by simp; omega)
            (by rw [List.drop_zero, List.take_of_length_le (by simp; omega)]; exact hx) (by rw [List.drop_zero, List.take_of_length_le (by simp; omega)]; exact hy)
          exact this
        · cases hg
      · cases hg
    · cases fs with
      | nil => simp [eqG] at hg
      | cons f r =>
        simp only [eqG, Bool.and_eq_true, decide_eq_true_eq] at hg
        obtain ⟨⟨⟨⟨g1, g2⟩, g3⟩, g4⟩, g5⟩ := hg
        simp only [Ty.height] at hd
        exact fieldsStep g1 (Nat.eq_of_beq_eq_true g2) g3 g4 g5 (by omega) (by omega) hfx hfy hx hy
  | arr n t ih =>
    refine ⟨fun {T d x y cs ds u v w} hg hd hx hy hu hv => ?_, fun hg => by simp [eqG] at hg⟩
    simp only [eqG] at hg
    split at hg
    · rename_i m e hm
      simp only [Bool.and_eq_true] at hg
      obtain ⟨⟨g1, g2⟩, g3⟩ := hg
      have g1 := Nat.eq_of_beq_eq_true g1
      subst g1
      obtain ⟨i, hi, hsz⟩ := sizeB_spec g2
      simp only [IsVal, Ty.isAgg, if_true] at hu hv
      subst hu hv
      simp only [Ty.height] at hd
      obtain ⟨d, rfl⟩ : ∃ k, d = k + 1 := ⟨d - 1, by omega⟩
      rw [run_equalIn_array w d _ _ hm hi]
      have hcell : P.cellsOf e = t.size := by unfold Program.cellsOf; rw [hi]; simp [hsz]
      rw [hcell]
      have key : ∀ (is : List Nat), (∀ j ∈ is, j < m) → (Op.eqItems d e t.size cs.toArray ds.toArray is).run P w = .ok (is.all fun j => Ty.beq t (x.getD j t.dflt) (y.getD j t.dflt)) w := by
        intro is
        induction is with
        | nil => intro _; simp [Op.eqItems]
        | cons j is ihj =>
          intro hj
          have hjm := hj j (by simp)
          have hle := mul_succ_le (k := t.size) hjm
          have hl1 : cs.length = m * t.size := hx.2.1
          have hl2 : ds.length = m * t.size := hy.2.1
          obtain ⟨u, hu, hu'⟩ := run_part_val (w := w) g3 g2 (xs := cs.toArray) (off := j * t.size) (by simp; omega) (hx.2.2 j hjm)
          obtain ⟨v, hv, hv'⟩ := run_part_val (w := w) g3 g2 (xs := ds.toArray) (off := j * t.size) (by simp; omega) (hy.2.2 j hjm)
          have he := ih.1 (d := d) g3 (by omega) (hx.2.2 j hjm) (hy.2.2 j hjm) hu' hv'
          have hr := ihj fun q hq => hj q (by simp [hq])
          simp only [Op.eqItems, Sem.run_bind, hu, hv, he, Result.andThen_ok, List.all_cons]
          cases Ty.beq t (x.getD j t.dflt) (y.getD j t.dflt)
          · simp
          · simp [hr]
      exact key (List.range m) fun j hj => List.mem_range.1 hj
    · cases hg

theorem give_agg (hD : DOk P C) (h : Rep W0 F0 ρ s a w) {o : Oper} {op : BinOp} {T T' : Nat} {x y : Operand} (hop : o.op = .binOp op T x y T') {av bv v : AV} (h1 : Val ⟨w, s.o, ρ⟩ av (a.eval x)) (h2 : Val ⟨w, s.o, ρ⟩ bv (a.eval y)) {f : Bool → Bool}
    (hf : (op = .eql ∧ f = id) ∨ (op = .neq ∧ f = not)) (ho : (aggEq (C.D T) av bv fun r => .ret (.bool (f r))).Out s v s') : Gives P W0 F0 o a w v s' := by
  unfold aggEq at ho
  split at ho
  · rename_i t ht
    obtain ⟨hb, ho⟩ := out_bif ho
    simp only [Bool.and_eq_true] at hb
    obtain ⟨⟨b1, b2⟩, b3⟩ := hb
    split at ho
    · rename_i xv hxv
      split at ho
      · rename_i yv hyv
        obtain ⟨rfl, rfl⟩ := ho
        rcases hD T with e | tk
        · rw [e] at ht; cases ht
        obtain ⟨tk⟩ := tk
        obtain ⟨e1, e2, e3⟩ := tk.eq t ht b1
        have nb : ∀ {c : AV}, c.agg = true → c.sh ≠ .bad ∧ ∀ t xs, c ≠ .bk t xs := by
          intro c hc
          cases c <;> simp_all [AV.agg, AV.sh]
        obtain ⟨c1, d1⟩ := h1.cells (nb b2).1 (nb b2).2
        obtain ⟨c2, d2⟩ := h2.cells (nb b3).1 (nb b3).2
        obtain ⟨cs, hu⟩ := d1 b2
        obtain ⟨ds, hv⟩ := d2 b3
        rw [hu] at c1
        rw [hv] at c2
        simp only [Value.cells] at c1 c2
        obtain ⟨p1, q1⟩ := pu_ofAV hxv c1
        obtain ⟨p2, q2⟩ := pu_ofAV hyv c2
        have hta : t.isAgg = true := by
          cases t <;> simp_all [Ty.isAgg, ofAV] <;> cases av <;> simp_all [ofAV, AV.agg]
        have hr := (run_eqG (P := P) (F := Env.F ⟨w, s'.o, ρ⟩) (t := t)).1 (d := 10000) (w := w) e1 (by omega) p1 p2 (u := .agg cs) (v := .agg ds) (by unfold IsVal; rw [if_pos hta]) (by unfold IsVal; rw [if_pos hta])
        rcases hf with ⟨rfl, rfl⟩ | ⟨rfl, rfl⟩
        · exact ⟨_, w, ρ, .inl (by simp only [execOp, hop, hu, hv]; simp [run_eqGuard_agg _ _ _ _ _ _ _ e2, run_eql_struct, hr]), h, Val.mkBool _ _⟩
        · exact ⟨_, w, ρ, .inl (by simp only [execOp, hop, hu, hv]; simp [run_eqGuard_agg _ _ _ _ _ _ _ e2, run_neq_struct, hr]), h, Val.mkBool _ _⟩
      · exact ho.elim
    · exact ho.elim
  · exact ho.elim

theorem give_bin (hD : DOk P C) (h : Rep W0 F0 ρ s a w) {o : Oper} {op : BinOp} {T T' : Nat} {x y : Operand} (hop : o.op = .binOp op T x y T') {v : AV} (ho : (rdX x fun a => rdX y fun b => binPg C op T a b).Out s v s') : Gives P W0 F0 o a w v s' := by
  obtain ⟨av, h1, ho1⟩ := out_rdX h ho
  clear ho
  obtain ⟨bv, h2, ho⟩ := out_rdX h ho1
  clear ho1
  unfold binPg at ho
  split at ho
  · rename_i k m k' n
    have hx := h1.int_eq
    have hy := h2.int_eq
    split at ho
    · obtain ⟨hn, rfl, rfl⟩ := ho
      exact (give_shift h hx hy hn).1 hop
    · obtain ⟨hn, rfl, rfl⟩ := ho
      exact (give_shift h hx hy hn).2 hop
    · rename_i hs1 hs2
      obtain ⟨hkk, ho2⟩ := out_ifp ho
      subst hkk
      exact give_binI h hop hx hy hs1 hs2 ho2
  · exact give_binS h hop h1.str_eq h2.str_eq ho
  · split at ho
    · rename_i hk
      obtain ⟨rfl, rfl⟩ := ho
      exact (give_bool hD h hk h1.bool_eq h2.bool_eq).1 hop
    · rename_i hk
      obtain ⟨rfl, rfl⟩ := ho
      exact (give_bool hD h hk h1.bool_eq h2.bool_eq).2 hop
    · exact ho.elim
  · split at ho
    · rename_i hk
      obtain ⟨rfl, rfl⟩ := ho
      exact (give_ptr hD h hk h1.nilp_eq h2.nilp_eq (.inl rfl)).1 hop
    · rename_i hk
      obtain ⟨rfl, rfl⟩ := ho
      exact (give_ptr hD h hk h1.nilp_eq h2.nilp_eq (.inl rfl)).2 hop
    · exact ho.elim
  · obtain ⟨ad, hu, _⟩ := h1.ref_eq
    split at ho
    · rename_i hk
      obtain ⟨rfl, rfl⟩ := ho
      exact (give_ptr hD h hk hu h2.nilp_eq (.inr rfl)).1 hop
    · rename_i hk
      obtain ⟨rfl, rfl⟩ := ho
      exact (give_ptr hD h hk hu h2.nilp_eq (.inr rfl)).2 hop
    · exact ho.elim
  · obtain ⟨ad, hu, _⟩ := h2.ref_eq
    split at ho
    · rename_i hk
      obtain ⟨rfl, rfl⟩ := ho
      exact (give_ptr hD h hk h1.nilp_eq hu (.inl rfl)).1 hop
    · rename_i hk
      obtain ⟨rfl, rfl⟩ := ho
      exact (give_ptr hD h hk h1.nilp_eq hu (.inl rfl)).2 hop
    · exact ho.elim
  · split at ho
    · exact give_agg hD h hop h1 h2 (f := id) (.inl ⟨rfl, rfl⟩) ho
    · exact give_agg hD h hop h1 h2 (f := not) (.inr ⟨rfl, rfl⟩) ho
    · exact ho.elim

theorem lenOk_spec {k : TK} {v : AV} (h : lenOk k v = true) : (∀ b, v = .str b → k = .str) ∧ ((∀ b, v ≠ .str b) → ∃ e, k = .sl e) ∧ (k = .str ∨ ∃ e, k = .sl e) := by
  cases v <;> cases k <;> simp_all [lenOk]

/-- every operation but a call of a function -/
theorem give_op (hD : DOk P C) (hDs : ∀ T e, ((C.D T).k = .sl e ∨ ∃ m, (C.D T).k = .arr m e) → (C.D e).k ≠ .other) (h : Rep W0 F0 ρ s a w) {o : Oper} (hc : ∀ c f, o.op = .call c → c.callee ≠ .value (.func f)) {v : AV} (ho : (opPg C o).Out s v s') : Gives P W0 F0 o a w v s' := by
  unfold opPg at ho
  split at ho
  · rename_i x hop; exact give_move h (.inl hop) ho
  · rename_i x hop; exact give_move h (.inr hop) ho
  · rename_i c x y hop
    split at ho
    · exact give_pick h hop ho
    · exact ho.elim
  · rename_i T hop
    split at ho
    · obtain ⟨hd, ho⟩ := out_nif ho
      exact give_alloc hD h hop hd ho
    · exact ho.elim
  · rename_i T x hop
    split at ho
    · exact give_box h hop ho
    · exact ho.elim
  · rename_i T parts hop; exact give_build hD h hop ho
  · rename_i T len parts hop
    split at ho
    · exact give_bsl hD h hop ho
    · exact ho.elim
  · rename_i T x hop; exact give_load hD h hop ho
  · rename_i T x y hop
    split at ho
    · exact give_store hD h hop ho
    · exact ho.elim
  · rename_i x hop; exact give_nilCheck h hop ho
  · rename_i op T x y T' hop; exact give_bin hD h hop ho
  · rename_i op T x hop; exact give_unOp h hop ho
  · rename_i src dst x hop; exact give_conv hD h hop ho
  · rename_i T l c hop
    split at ho
    · exact give_make hD h hop ho
    · exact ho.elim
  · rename_i T x lo hi hop; exact give_slice hD hDs h hop ho
  · rename_i T x f hop; exact give_fieldAddr hD h hop ho
  · rename_i T x f hop; exact give_field hD h hop ho
  · rename_i T x i hop; exact give_index hD hDs h hop ho
  · rename_i T x i hop; exact give_el hD h hop ho
  · rename_i x i hop; exact give_extract h hop ho
  · rename_i c hop
    split at ho
    · rename_i b hcal
      obtain ⟨vs, hvs, ho⟩ := out_rdXs h ho
      have key : ∀ d, (builtPg C b c.argTypes.toList vs d).Out s v s' → Gives P W0 F0 o a w v s' := by
        intro d ho
        generalize hT : c.argTypes.toList = Ts at ho
        unfold builtPg at ho
        have one : ∀ {v1 : AV}, vs = [v1] → ∃ x, c.args = #[x] ∧ c.args.toList = [x] ∧ Val ⟨w, s.o, ρ⟩ v1 (a.eval x) := by
          intro v1 e
          rw [e] at hvs
          obtain ⟨u, us, e1, hv1, e2⟩ := hvs
          have e2 : us = [] := e2
          rw [e2] at e1
          obtain ⟨x, hx, hxu⟩ := List.map_eq_singleton_iff.1 e1
          refine ⟨x, by rw [← Array.toArray_toList (xs := c.args), hx], hx, by rw [hxu]; exact hv1⟩
        have two : ∀ {v1 v2 : AV}, vs = [v1, v2] → ∃ x y, c.args = #[x, y] ∧ Val ⟨w, s.o, ρ⟩ v1 (a.eval x) ∧ Val ⟨w, s.o, ρ⟩ v2 (a.eval y) := by
          intro v1 v2 e
          rw [e] at hvs
          obtain ⟨u, us, e1, hv1, u2, us2, e2, hv2, e3⟩ := hvs
          have e3 : us2 = [] := e3
          rw [e3] at e2
          rw [e2] at e1
          match hl : c.args.toList, e1 with
          | [x, y], e1 =>
            simp at e1
            exact ⟨x, y, by rw [← Array.toArray_toList (xs := c.args), hl], by rw [e1.1]; exact hv1, by rw [e1.2]; exact hv2⟩
        have tys : ∀ {l : List Nat}, c.argTypes.toList = l → c.argTypes = l.toArray := by
          intro l e; rw [← e]
        split at ho
        · rename_i T v1
          obtain ⟨hk, ho2⟩ := out_bif ho
          obtain ⟨x, _, e2, hv⟩ := one rfl
          obtain ⟨l1, l2, l3⟩ := lenOk_spec hk
          exact give_len hD h hop hcal e2 hv hT l3 ho2 l1 l2
        · rename_i T T2 v1 v2
          obtain ⟨hk, ho2⟩ := out_bif ho
          have hk := Nat.eq_of_beq_eq_true hk
          subst hk
          obtain ⟨x, y, e1, hv1, hv2⟩ := two rfl
          exact give_append hD h hop hcal e1 (tys hT) hv1 hv2 ho2
        · rename_i T T2 v1 v2
          obtain ⟨x, y, e1, hv1, hv2⟩ := two rfl
          exact give_copy hD h hop hcal e1 (tys hT) hv1 hv2 ho
        · rename_i T v1
          obtain ⟨x, e1, _, hv⟩ := one rfl
          exact give_clear hD h hop hcal e1 (tys hT) hv ho
        · exact (give_mnmx h hop rfl hvs).1 hcal ho
        · exact (give_mnmx h hop rfl hvs).2 hcal ho
        · exact ho.elim
      split at ho
      · exact key _ ho
      · split at ho
        · exact key _ ho
        · exact key _ ho
        · exact ho.elim
    · rename_i f hcal
      exact absurd hcal (hc c f hop)
    · exact ho.elim
  · exact ho.elim
end
end Go.Ev
