/- Addresses of elements and fields; elements and fields of values; conversions. -/
import Derived.Test.YtfdgkmligadcnaaEv10
set_option linter.unusedVariables false
set_option linter.unusedSimpArgs false
namespace Go.Ev
open Go
section
variable {P : Program} {C : Cx} {W0 : World} {F0 : Base} {ρ : Nat → Option Loc} {s s' : St} {a : Act} {w : World}

theorem off_append : ∀ {p q : List PS} {s : Sh} {k j : Nat} {e e' : Sh}, Sh.off p s = some (k, e) → Sh.off q e = some (j, e') → Sh.off (p ++ q) s = some (k + j, e') := by
  intro p
  induction p with
  | nil => intro q s k j e e' h1 h2; simp [Sh.off] at h1; obtain ⟨rfl, rfl⟩ := h1; simpa using h2
  | cons x p ih =>
    intro q s k j e e' h1 h2
    cases x with
    | fld i =>
      simp only [Sh.off] at h1
      split at h1
      · rename_i k' d hk'
        split at h1
        · rename_i j' e'' hj'
          simp at h1
          obtain ⟨rfl, rfl⟩ := h1
          simp only [List.cons_append, Sh.off, hk', ih hj' h2, Nat.add_assoc]
        · cases h1
      · cases h1
    | idx i =>
      have key : ∀ (t : Ty) (n : Nat), (if 0 ≤ i ∧ i < (n : Int) then (match Sh.off p (shT t) with | some (j, e) => some (i.toNat * t.size + j, e) | none => none) else none) = some (k, e) →
          (if 0 ≤ i ∧ i < (n : Int) then (match Sh.off (p ++ q) (shT t) with | some (j, e) => some (i.toNat * t.size + j, e) | none => none) else none) = some (k + j, e') := by
        intro t n h1
        split at h1
        · rename_i hi
          split at h1
          · rename_i j' e'' hj'
            simp at h1
            obtain ⟨rfl, rfl⟩ := h1
            rw [if_pos hi, ih hj' h2]
            simp [Nat.add_assoc]
          · cases h1
        · cases h1
      cases s with
      | arr t n => exact key t n h1
      | bk t n => exact key t n h1
      | _ => simp [Sh.off] at h1

theorem run_indexAt_arr {T e : TypeId} {m : Nat} {i : TypeInfo} (hd : P.underlying T = some (.array m e)) (hi : P.info? e = some i) {ad : Addr} {k : IntKind} {n : Int} (h0 : 0 ≤ n) (h1 : n < m) :
    (Instr.indexAt T (.pointer (some ad)) (.int k n)).run P w = .ok (.pointer (some (ad.add (n.toNat * i.size)))) w := by
  simp [Instr.indexAt, asIntOf, run_underlying hd, Instr.sureAddr, h0, h1, run_sizeOf hi]
theorem run_indexAt_sl {T e : TypeId} {m cap : Nat} {i : TypeInfo} (hd : P.underlying T = some (.slice e)) (hi : P.info? e = some i) {ad : Addr} {k : IntKind} {n : Int} (h0 : 0 ≤ n) (h1 : n < m) :
    (Instr.indexAt T (.slice (some ad) m cap) (.int k n)).run P w = .ok (.pointer (some (ad.add (n.toNat * i.size)))) w := by
  simp [Instr.indexAt, asIntOf, run_underlying hd, h0, h1, run_sizeOf hi]

theorem pref_elem {E : Env} {t : Ty} {xs : List t.den} {b off : Nat} {cells : Array Value} {T : TypeId} {fr : Nat × Nat} (hF : ¬ E.F b) (hb : E.w.heap[b]? = some (.cells cells T fr))
    {i : Nat} (hs : off + (i * t.size + t.size) ≤ cells.size) (hp : Pu E.w E.F t (xs.getD i t.dflt) (seg cells (off + i * t.size) t.size)) : PrefOf E t (xs.getD i t.dflt) ⟨b, off + i * t.size, none⟩ :=
  ⟨b, _, cells, T, fr, rfl, hF, hb, by omega, hp⟩

theorem give_index (hD : DOk P C) (hDs : ∀ T e, ((C.D T).k = .sl e ∨ ∃ m, (C.D T).k = .arr m e) → (C.D e).k ≠ .other) (h : Rep W0 F0 ρ s a w) {o : Oper} {T : Nat} {x y : Operand} (hop : o.op = .indexAddr T x y) {v : AV}
    (ho : (rdX x fun a => rdX y fun j => match j with | .int _ i => idxPg C T a i | _ => .fail).Out s v s') : Gives P W0 F0 o a w v s' := by
  obtain ⟨av, h1, ho1⟩ := out_rdX h ho
  clear ho
  obtain ⟨jv, h2, ho⟩ := out_rdX h ho1
  clear ho1
  split at ho
  · rename_i ki i
    have hj := h2.int_eq
    have fin : ∀ {u : Value}, (Instr.indexAt T (a.eval x) (a.eval y)).run P w = .ok u w → Val ⟨w, s.o, ρ⟩ v u → s' = s → Gives P W0 F0 o a w v s' := by
      rintro u hr hv rfl
      exact ⟨u, w, ρ, .inl (by simp [execOp, hop, hr]), h, hv⟩
    unfold idxPg at ho
    split at ho
    · rename_i q p
      split at ho
      · rename_i m e hk
        obtain ⟨c, hc, hd, ho⟩ := ho
        dsimp only at ho
        split at ho
        · rename_i t n xs hat
          obtain ⟨⟨hsz, rfl⟩, b0, b1, rfl, rfl⟩ := out_ifp ho
          obtain ⟨d, hdu, hkd⟩ := und hD hk (by simp)
          rw [kindB_arr hkd] at hdu
          obtain ⟨tke⟩ := tok_of_kind hD (hDs T e (.inr ⟨_, hk⟩))
          obtain ⟨ad, hu, hx⟩ := h1.ref_eq
          obtain ⟨loc, k, e', cells, T', fr, cs, g1, g2, g3, g4, g5, g6, g7, g8, g9⟩ := h.at_ref hx hc hd
          have hsh := at_off hat g2
          simp only [AV.sh] at hsh
          subst hsh
          refine fin (by rw [hu, hj, run_indexAt_arr hdu tke.hi b0 b1]) (Val.leaf rfl ⟨_, rfl, c, hc, .inr ⟨loc, k + i.toNat * t.size, shT t, g1, ?_, ?_⟩⟩) rfl
          · have : Sh.off [.idx i] (.arr t m) = some (i.toNat * t.size, shT t) := by
              simp [Sh.off, b0, b1]
            exact off_append g2 this
          · rw [g3, addr_add, tke.size, ← hsz, Nat.add_assoc]
        · exact ho.elim
      · exact ho.elim
    · rename_i n t xs
      split at ho
      · rename_i m e hk
        obtain ⟨⟨hsz, rfl⟩, b0, b1, rfl, rfl⟩ := out_ifp ho
        obtain ⟨d, hdu, hkd⟩ := und hD hk (by simp)
        rw [kindB_arr hkd] at hdu
        obtain ⟨tke⟩ := tok_of_kind hD (hDs T e (.inr ⟨_, hk⟩))
        obtain ⟨ad, hu, b, off, cells, T', fr, hx, hF, hb, hs, hp⟩ := h1.pref_eq
        have hi : i.toNat < m := by omega
        have hle := mul_succ_le (k := t.size) hi
        refine fin (by rw [hu, hj, run_indexAt_arr hdu tke.hi b0 b1]) (Val.leaf rfl ⟨_, rfl, ?_⟩) rfl
        rw [hx, addr_add, tke.size, ← hsz]
        simp only [Ty.size] at hs hp
        refine pref_elem hF hb (by omega) ?_
        rw [seg_sub (n := m * t.size) (by omega)]
        exact hp.2.2 _ hi
      · exact ho.elim
    · rename_i q p off len
      split at ho
      · rename_i e hk
        obtain ⟨c, hc, hd, ho⟩ := ho
        dsimp only at ho
        obtain ⟨d, hdu, hkd⟩ := und hD hk (by simp)
        rw [kindB_sl hkd] at hdu
        obtain ⟨tke⟩ := tok_of_kind hD (hDs T e (.inl hk))
        have key : ∀ {t : Ty} {m : Nat} {xs : List t.den} {d : AV}, AV.at p c = some d → (d = .arr t m xs ∨ (d = .bk t xs ∧ m = xs.length)) → t.size = (C.D e).size →
            (tst (0 ≤ i) <| tst (i < len) <| (.ret (.ref q (p ++ [.idx (off + i)])) : Pg AV)).Out s v s' → Gives P W0 F0 o a w v s' := by
          intro t m xs d hat hdd hsz ho
          obtain ⟨b0, b1, rfl, rfl⟩ := ho
          obtain ⟨n, ad, cap, hu, hn, hcap, h0, hm, hk, _⟩ := h.view h1.view_eq hc hd hat hdd
          rcases hk with hk | ⟨loc, k, cells, T', fr, cs, g1, rfl, g4, gs, g2, g5, g6, g7, g8, g9, gp⟩
          · omega
          · refine fin (by rw [hu, hj, run_indexAt_sl hdu tke.hi b0 (by omega)]) (Val.leaf rfl ⟨_, rfl, c, hc, .inr ⟨loc, k + (off + i).toNat * t.size, shT t, g1, ?_, ?_⟩⟩) rfl
            · have : Sh.off [.idx (off + i)] d.sh = some ((off + i).toNat * t.size, shT t) := by
                have hb : 0 ≤ off + i ∧ off + i < m := by omega
                rcases hdd with rfl | ⟨rfl, rfl⟩ <;> simp [AV.sh, Sh.off, hb]
              exact off_append g2 this
            · rw [addr_add, tke.size, ← hsz, show (off + i).toNat = off.toNat + i.toNat by omega, Nat.add_mul]
              simp [Nat.add_assoc]
        split at ho
        · rename_i t m xs hat
          obtain ⟨hsz, ho⟩ := out_ifp ho
          exact key hat (.inl rfl) hsz ho
        · rename_i t xs hat
          obtain ⟨hsz, ho⟩ := out_ifp ho
          exact key hat (.inr ⟨rfl, rfl⟩) hsz ho
        · exact ho.elim
      · exact ho.elim
    · rename_i q
      split at ho
      · rename_i e hk
        obtain ⟨c, hc, hd, ho⟩ := ho
        dsimp only at ho
        split at ho
        · rename_i t xs
          obtain ⟨hsz, b0, b1, rfl, rfl⟩ := out_ifp ho
          obtain ⟨d, hdu, hkd⟩ := und hD hk (by simp)
          rw [kindB_sl hkd] at hdu
          obtain ⟨tke⟩ := tok_of_kind hD (hDs T e (.inl hk))
          obtain ⟨ad, cap, hu, hcap, hk', _⟩ := h.full h1.full_eq hc
          rcases hk' with ⟨hk', hx⟩ | ⟨loc, cells, T', fr, cs, g1, rfl, g3, g4, _⟩
          · subst hx; simp at b1; omega
          · refine fin (by rw [hu, hj, run_indexAt_sl hdu tke.hi b0 b1]) (Val.leaf rfl ⟨_, rfl, .bk t xs, hc, .inr ⟨loc, i.toNat * t.size, shT t, g1, ?_, ?_⟩⟩) rfl
            · simp [AV.sh, Sh.off, b0, b1]
            · rw [addr_add, tke.size, ← hsz]
        · exact ho.elim
      · exact ho.elim
    · rename_i t xs
      split at ho
      · rename_i e hk
        obtain ⟨hsz, b0, b1, rfl, rfl⟩ := out_ifp ho
        obtain ⟨d, hdu, hkd⟩ := und hD hk (by simp)
        rw [kindB_sl hkd] at hdu
        obtain ⟨tke⟩ := tok_of_kind hD (hDs T e (.inl hk))
        obtain ⟨ad, cap, hu, hcap, hp⟩ := h1.lst_eq
        have hu' : a.eval x = .slice ad xs.length cap := by simpa using hu
        rcases hp with hp | ⟨b, off, cells, T', fr, rfl, hF, hb, hs, hp⟩
        · subst hp; simp at b1; omega
        · have hi : i.toNat < xs.length := by omega
          have hle := mul_succ_le (k := t.size) hi
          refine fin (by rw [hu', hj, run_indexAt_sl hdu tke.hi b0 b1]) (Val.leaf rfl ⟨_, rfl, ?_⟩) rfl
          rw [addr_add, tke.size, ← hsz]
          exact pref_elem hF hb (by omega) (hp _ hi)
      · exact ho.elim
    · exact ho.elim
  · exact ho.elim

theorem run_fieldAt {T : TypeId} {fields : Array Field} {f : Nat} {fd : Field} {i : TypeInfo} (hd : P.underlying T = some (.struct fields)) (hf : fields[f]? = some fd) (hi : P.info? fd.type = some i) (hz : i.size ≠ 0) {b off : Nat} :
    (Instr.fieldAt T (.pointer (some ⟨b, off, none⟩)) f).run P w = .ok (.pointer (some ⟨b, off + fd.offset, none⟩)) w := by
  simp [Instr.fieldAt, run_underlying hd, hf, Instr.sureAddr, fieldPlace, run_sizeOf hi, hz, addr_add]

theorem st_field {fs : List (Nat × Nat)} {fields : Array Field} (h : fields.toList.map (fun f => (f.type, f.offset)) = fs) {f : Nat} {ft off : Nat} (hf : fs[f]? = some (ft, off)) :
    ∃ fd, fields[f]? = some fd ∧ fd.type = ft ∧ fd.offset = off := by
  subst h
  simp only [List.getElem?_map, Option.map_eq_some_iff] at hf
  obtain ⟨fd, h1, h2⟩ := hf
  simp at h2
  exact ⟨fd, by simpa using h1, h2.1, h2.2⟩

theorem out_prefFld : ∀ {t : Ty} {x : t.den} {f k off : Nat} {v : AV}, (prefFld t x f k off).Out s v s' → s' = s ∧ ∃ (t' : Ty) (x' : t'.den), v = .pref t' x' ∧ k ≤ off ∧ off + t'.size ≤ k + t.size ∧
      ∀ {w : World} {F : Nat → Prop} {cs : List Value}, Pu w F t x cs → Pu w F t' x' ((cs.drop (off - k)).take t'.size) := by
  intro t
  induction t with
  | pair A B iha ihb =>
    intro x f k off v ho
    cases f with
    | zero =>
      simp only [prefFld] at ho
      obtain ⟨rfl, rfl, rfl⟩ := out_ifp ho
      refine ⟨rfl, A, x.1, rfl, Nat.le_refl _, by simp [Ty.size], fun hp => ?_⟩
      simpa using hp.1
    | succ f =>
      simp only [prefFld] at ho
      obtain ⟨h1, t', x', h2, h3, h4, h5⟩ := ihb ho
      refine ⟨h1, t', x', h2, by omega, by simp only [Ty.size]; omega, fun hp => ?_⟩
      have := h5 hp.2
      rwa [List.drop_drop, show A.size + (off - (k + A.size)) = off - k by omega] at this
  | _ => intro x f k off v ho; simp only [prefFld] at ho; exact ho.elim

theorem give_fieldAddr (hD : DOk P C) (h : Rep W0 F0 ρ s a w) {o : Oper} {T f : Nat} {x : Operand} (hop : o.op = .fieldAddr T x f) {v : AV} (ho : (rdX x fun a => fldPg C T a f).Out s v s') : Gives P W0 F0 o a w v s' := by
  obtain ⟨av, h1, ho1⟩ := out_rdX h ho
  clear ho
  have ho := ho1
  clear ho1
  unfold fldPg at ho
  split at ho
  · rename_i fs hk
    split at ho
    · rename_i ft off hf
      obtain ⟨hb, ho⟩ := out_bif ho
      simp only [Bool.and_eq_true, Bool.not_eq_true'] at hb
      obtain ⟨d, hdu, hkd⟩ := und hD hk (by simp)
      obtain ⟨fields, rfl, hfs⟩ := kindB_st hkd
      obtain ⟨fd, e1, e2, e3⟩ := st_field hfs hf
      obtain ⟨tkf⟩ := tok_of_kind hD (T := ft) (fun e => by rw [e] at hb; simp [TK.ok] at hb)
      have hz : tkf.i.size ≠ 0 := by
        rw [tkf.size]; intro e; rw [e] at hb; simp at hb
      have hi : P.info? fd.type = some tkf.i := by rw [e2]; exact tkf.hi
      split at ho
      · rename_i q p
        obtain ⟨c, hc, hd, ho⟩ := ho
        dsimp only at ho
        split at ho
        · rename_i d' hat
          split at ho
          · rename_i k' e' hn
            obtain ⟨rfl, rfl, rfl⟩ := out_ifp ho
            obtain ⟨ad, hu, hx⟩ := h1.ref_eq
            obtain ⟨loc, k, e'', cells, T', fr, cs, g1, g2, g3, g4, g5, g6, g7, g8, g9⟩ := h.at_ref hx hc hd
            refine ⟨.pointer (some ⟨loc.b, loc.off + k + fd.offset, none⟩), w, ρ, .inl ?_, h, Val.leaf rfl ⟨_, rfl, c, hc, .inr ⟨loc, k + k', e', g1, ?_, ?_⟩⟩⟩
            · simp [execOp, hop, hu, g3, run_fieldAt hdu e1 hi hz]
            · have hsh := at_off hat g2
              subst hsh
              have : Sh.off [.fld f] d'.sh = some (k', e') := by simp [Sh.off, hn]
              exact off_append g2 this
            · rw [e3, Nat.add_assoc]
          · exact ho.elim
        · exact ho.elim
      · rename_i t y _
        obtain ⟨rfl, t', x', rfl, b1, b2, hp'⟩ := out_prefFld ho
        obtain ⟨ad, hu, b, off', cells, T', fr, hx, hF, hb, hs, hp⟩ := h1.pref_eq
        refine ⟨.pointer (some ⟨b, off' + fd.offset, none⟩), w, ρ, .inl ?_, h, Val.leaf rfl ⟨_, rfl, b, off' + fd.offset, cells, T', fr, rfl, hF, hb, ?_, ?_⟩⟩
        · simp [execOp, hop, hu, hx, run_fieldAt hdu e1 hi hz]
        · rw [e3]; omega
        · have := hp' hp
          rw [Nat.sub_zero] at this
          rwa [e3, seg_sub (n := t.size) (by omega)]
      · exact ho.elim
    · exact ho.elim
  · exact ho.elim

/-! a part of a value -/
theorem run_part_ce (hD : DOk P C) {T : Nat} {v : AV} (hl : loadOk (C.D T) v = true) {E : Env} {cs : Array Value} {off : Nat} (hf : off + v.sh.size ≤ cs.size) (hc : Ce E v ((cs.toList.drop off).take v.sh.size)) :
    ∃ u, (part T cs off).run P w = .ok u w ∧ Val E v u := by
  obtain ⟨h0, ⟨tk⟩, h2, h3, h4⟩ := load_known hD hl
  have hk := kind_agg tk.kind
  by_cases e : v.agg = true
  · have ha : descAgg tk.d = true := by rw [← hk, ← h3, e]
    refine ⟨.agg (cs.extract off (off + tk.i.size)), ?_, .inl (.inr (.inl ⟨e, _, ?_, hc⟩))⟩
    · simp [part, run_isAgg tk.hd, ha, run_sizeOf tk.hi]
    · rw [tk.size, ← h2]
      congr 1
      apply Array.ext'
      simp [Array.toList_extract, List.extract_eq_take_drop]
  · have e' : v.agg = false := by simpa using e
    have hs := h4 e'
    rw [hs] at hf hc
    simp only [Sh.size] at hf hc
    have ha : descAgg tk.d = false := by rw [← hk, ← h3, e']
    have hlt : off < cs.size := by omega
    refine ⟨cs[off], ?_, Val.leaf hs ?_⟩
    · simp [part, run_isAgg tk.hd, ha, hlt]
    · have : (cs.toList.drop off).take 1 = [cs[off]] := by
        rw [List.take_one]
        simp [hlt]
      rwa [this] at hc

theorem give_field (hD : DOk P C) (h : Rep W0 F0 ρ s a w) {o : Oper} {T f : Nat} {x : Operand} (hop : o.op = .field T x f) {v : AV} (ho : (rdX x fun a => fieldPg C T a f).Out s v s') : Gives P W0 F0 o a w v s' := by
  obtain ⟨av, h1, ho1⟩ := out_rdX h ho
  clear ho
  have ho := ho1
  clear ho1
  unfold fieldPg at ho
  split at ho
  · rename_i fs hk
    split at ho
    · rename_i ft off hf
      split at ho
      · rename_i v' hv'
        split at ho
        · rename_i k e hn
          obtain ⟨hb, rfl, rfl⟩ := out_bif ho
          simp only [Bool.and_eq_true] at hb
          have hko := Nat.eq_of_beq_eq_true hb.1
          subst hko
          obtain ⟨d, hdu, hkd⟩ := und hD hk (by simp)
          obtain ⟨fields, rfl, hfs⟩ := kindB_st hkd
          obtain ⟨fd, e1, e2, e3⟩ := st_field hfs hf
          have hagg : av.agg = true := by cases av <;> simp_all [AV.nth, AV.agg]
          have hsh : av.sh ≠ .bad := by cases av <;> simp_all [AV.agg, AV.sh]
          obtain ⟨hce, hex⟩ := h1.cells hsh (by rintro t xs rfl; simp [AV.agg] at hagg)
          obtain ⟨cs, hu⟩ := hex hagg
          rw [hu] at hce
          simp only [Value.cells] at hce
          obtain ⟨k', hk'⟩ := nth_sh hv'
          rw [hn] at hk'
          simp only [Option.some.injEq, Prod.mk.injEq] at hk'
          obtain ⟨rfl, rfl⟩ := hk'
          have hc' := ce_nth hv' hn hce
          have hle := sh_nth_le hn
          have hlen := hce.len
          obtain ⟨u, hr, hval⟩ := run_part_ce (w := w) hD hb.2 (off := k) (by simp at hlen; omega) hc'
          refine ⟨u, w, ρ, .inl ?_, h, hval⟩
          simp [execOp, hop, hu, Instr.field, run_underlying hdu, e1, e2, e3, asAgg, hr]
        · exact ho.elim
      · exact ho.elim
    · exact ho.elim
  · exact ho.elim

theorem give_el (hD : DOk P C) (h : Rep W0 F0 ρ s a w) {o : Oper} {T : Nat} {x y : Operand} (hop : o.op = .index T x y) {v : AV}
    (ho : (rdX x fun a => rdX y fun j => match j with | .int _ i => elPg C T a i | _ => .fail).Out s v s') : Gives P W0 F0 o a w v s' := by
  obtain ⟨av, h1, ho1⟩ := out_rdX h ho
  clear ho
  obtain ⟨jv, h2, ho⟩ := out_rdX h ho1
  clear ho1
  split at ho
  · rename_i ki i
    have hj := h2.int_eq
    unfold elPg at ho
    split at ho
    · rename_i b
      split at ho
      · rename_i hk
        obtain ⟨b0, b1, rfl, rfl⟩ := ho
        obtain ⟨d, hdu, hkd⟩ := und hD hk (by simp)
        rw [kindB_str hkd] at hdu
        have hlt : i.toNat < b.size := by omega
        refine ⟨.int .u8 (bt b i), w, ρ, .inl ?_, h, Val.mkInt _ _ _⟩
        have : bt b i = ((b[i.toNat]'hlt).toNat : Int) := by
          simp only [bt, List.getD]
          have : b.data.toList[i.toNat]? = some b[i.toNat] := by
            rw [List.getElem?_eq_getElem (by simpa using hlt)]
            rfl
          rw [this]; rfl
        rw [this]
        simp [execOp, hop, h1.str_eq, hj, Instr.index, asIntOf, run_underlying hdu, b0, hlt]
      · exact ho.elim
    · rename_i t n xs
      split at ho
      · rename_i m e hk
        obtain ⟨hb, b0, b1, rfl, rfl⟩ := out_bif ho
        simp only [Bool.and_eq_true] at hb
        have hmn := Nat.eq_of_beq_eq_true hb.1
        subst hmn
        obtain ⟨d, hdu, hkd⟩ := und hD hk (by simp)
        rw [kindB_arr hkd] at hdu
        obtain ⟨hce, hex⟩ := h1.cells (by simp [AV.sh]) (by rintro t xs h; cases h)
        obtain ⟨cs, hu⟩ := hex rfl
        rw [hu] at hce
        simp only [Value.cells] at hce
        have hi : i.toNat < m := by omega
        have hel := ce_toAV (E := ⟨w, s'.o, ρ⟩) (hce.2.2 _ hi)
        have hle := mul_succ_le (k := t.size) hi
        have hlen : cs.toList.length = m * t.size := hce.2.1
        obtain ⟨_, ⟨tke⟩, hsz, _⟩ := load_known hD hb.2
        rw [toAV_size] at hsz
        obtain ⟨u, hr, hval⟩ := run_part_ce (w := w) hD hb.2 (cs := cs) (off := i.toNat * t.size) (E := ⟨w, s'.o, ρ⟩) (by rw [toAV_size]; simp at hlen; omega) (by rw [toAV_size]; exact hel)
        refine ⟨u, w, ρ, .inl ?_, h, hval⟩
        have hs2 : tke.i.size = t.size := by rw [tke.size, hsz]
        simp [execOp, hop, hu, hj, Instr.index, asIntOf, run_underlying hdu, b0, b1, run_sizeOf tke.hi, hs2, hr]
      · exact ho.elim
    · exact ho.elim
  · exact ho.elim
end
end Go.Ev
