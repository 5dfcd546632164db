/- copy and clear; structs and rows that are written out; the greatest and the least. -/
import Derived.Test.YtfdgkmligadcnaaEv15
set_option linter.unusedVariables false
set_option linter.unusedSimpArgs false
namespace Go.Ev
open Go
section
variable {P : Program} {C : Cx} {W0 : World} {F0 : Base} {ρ : Nat → Option Loc} {s s' : St} {a : Act} {w : World}

theorem Rep.viewArr (h : Rep W0 F0 ρ s a w) {o : Nat} {p : List PS} {off len : Int} {u : Value} (hv : ViewOf ⟨w, s.o, ρ⟩ o p off len u) {c : AV} (hc : s.o o = some c) (hd : c.dead = false) {t : Ty} {m : Nat} {xs : List t.den} (hat : AV.at p c = some (.arr t m xs)) :
    ∃ n ad cap l k cells T fr cs, u = .slice ad n cap ∧ (n : Int) = len ∧ 0 ≤ off ∧ off + len ≤ m ∧ ρ o = some l ∧ Sh.off p c.sh = some (k, .arr t m) ∧ w.heap[l.b]? = some (.cells cells T fr) ∧ Ce ⟨w, s.o, ρ⟩ c cs ∧ l.off + cs.length ≤ cells.size ∧
      seg cells l.off cs.length = cs ∧ Unfrozen fr l.off cells.size ∧ k + m * t.size ≤ cs.length ∧ Pu w (Env.F ⟨w, s.o, ρ⟩) (.arr m t) xs ((cs.drop k).take (m * t.size)) ∧ (n = 0 ∨ ad = some ⟨l.b, l.off + k + off.toNat * t.size, none⟩) := by
  obtain ⟨n, ad, cap, hu, hn, hcap, h0, hm, hk, _⟩ := h.view hv hc hd hat (.inl rfl)
  rcases hk with hk | ⟨l, k, cells, T, fr, cs, g1, g2, g3, g4, g5, g6, g7, g8, g9, g10, g11⟩
  · obtain ⟨n', ad', cap', hu', _, _, c', hc', hk'⟩ := hv
    have hcc : s.o o = some c' := hc'
    rw [hc] at hcc
    cases hcc
    rcases hk' with hk' | ⟨k, t', m', hoff, _, _, _⟩
    · exact absurd hk' (AV.dead_sh hd)
    · have hoff' : Sh.off p c.sh = some (k, .arr t m) := by
        rcases hoff with hoff | hoff <;> have e := at_off hat hoff <;> simp only [AV.sh] at e
        · rw [e]; exact hoff
        · cases e
      rcases h.ob o c hc (AV.dead_sh hd) with ⟨l, cells, T, fr, cs, g1, g2, g3, g4, g5, g6⟩ | ⟨_, t2, g1⟩
      · have hle := off_le hoff'
        have hce := ce_at hat hoff' g3
        simp only [Sh.size] at hle hce
        rw [← g3.len] at hle
        exact ⟨n, ad, cap, l, k, cells, T, fr, cs, hu, hn, h0, hm, g1, hoff', g2, g3, g4, g5, g6, hle, hce, .inl (by omega)⟩
      · exfalso
        subst g1
        cases p with
        | nil => simp [AV.at] at hat
        | cons x p =>
          cases x with
          | fld i => simp [Sh.off, AV.sh, Sh.nth] at hoff'
          | idx i => simp only [AV.sh, Sh.off, List.length_nil] at hoff'; rw [if_neg (by omega)] at hoff'; cases hoff'
  · exact ⟨n, ad, cap, l, k, cells, T, fr, cs, hu, hn, h0, hm, g1, by simpa [AV.sh] using g5, g3, g6, g7, g8, g9, g10, g11, .inr g2⟩

theorem setRow_nil {b : Nat} {T : TypeId} {fr : Nat × Nat} {cells : Array Value} (hb : w.heap[b]? = some (.cells cells T fr)) (off : Nat) (hf : off ≤ cells.size) (hu : Unfrozen fr off cells.size) : w.setRow b (splA cells off []) = w := by
  have := run_storeCells_spl (P := default) (b := b) (T := T) (fr := fr) off [] 0 cells w hb (by simpa using hf) (by simpa using hu) (by simp)
  simp only [storeCells, Nat.add_zero] at this
  have h2 : (pure () : Sem Unit).run default w = .ok () w := rfl
  rw [h2] at this
  injection this with _ h3
  exact h3.symm

/-- a stretch of an array is written -/
theorem Rep.wr_view (h : Rep W0 F0 ρ s a w) {o : Nat} {p : List PS} {off len : Int} {u : Value} (hv : ViewOf ⟨w, s.o, ρ⟩ o p off len u) {c c' : AV} (hc : s.o o = some c) (hd : c.dead = false) {t : Ty} {m : Nat} {xs zs : List t.den} (hat : AV.at p c = some (.arr t m xs))
    (hput : AV.put p c (.arr t m (splice xs off zs)) = some c') (ht : t.noSl = true) {vs : List Value} (hz : Pu w (fun _ => False) (.arr zs.length t) zs vs) (hl : (zs.length : Int) ≤ len) :
    ∃ n ad cap w', u = .slice ad n cap ∧ (n : Int) = len ∧ Rep W0 F0 ρ (s.setO o c') a w' ∧ (∀ P x, ad = some x → (storeCells x vs).run P w = .ok () w') ∧ (ad = none → w' = w) ∧ (n = 0 → w' = w) := by
  obtain ⟨n, ad, cap, l, k, cells, T, fr, cs, hu, hn, h0, hm, g1, g2, g3, g4, g5, g6, g7, g8, g9, g10⟩ := h.viewArr hv hc hd hat
  have hzl : vs.length = zs.length * t.size := hz.2.1
  have hle : (off.toNat + zs.length) * t.size ≤ m * t.size := Nat.mul_le_mul_right _ (by omega)
  rw [Nat.add_mul] at hle
  have hp := pu_splice g9 (hz.anywhere (t := .arr zs.length t) ht) h0 (by omega)
  obtain ⟨p1, p2⟩ := ce_put (E := ⟨w, s.o, ρ⟩) hput g2 g4 hp
  rw [spl_spl g8 (by omega)] at p1
  have hr := h.wr_part (k := k + off.toNat * t.size) (vs := vs) hc hd g1 g3 g4 g5 g6 g7 (by omega) (put_sh hput) p1
  have hnil : n = 0 → w.setRow l.b (splA cells (l.off + (k + off.toNat * t.size)) vs) = w := by
    intro e
    have hv0 : vs = [] := List.eq_nil_of_length_eq_zero (by rw [hzl, show zs.length = 0 by omega]; simp)
    rw [hv0]
    exact setRow_nil g3 _ (by omega) (fun i hi hj => g7 i (by omega) hj)
  refine ⟨n, ad, cap, _, hu, hn, hr, fun P x hx => ?_, fun hx => ?_, hnil⟩
  · rcases g10 with e | e
    · rw [hnil e]
      have hv0 : vs = [] := List.eq_nil_of_length_eq_zero (by rw [hzl, show zs.length = 0 by omega]; simp)
      rw [hv0]; rfl
    · rw [e] at hx
      cases hx
      have := run_storeCells_spl (P := P) (b := l.b) (T := T) (fr := fr) (l.off + k + off.toNat * t.size) vs 0 cells w g3 (by omega) (fun i hi hj => g7 i (by omega) hj) (pu_one hz)
      rw [Nat.add_zero, Nat.add_assoc l.off] at this
      rw [Nat.add_assoc l.off]
      exact this
  · rcases g10 with e | e
    · exact hnil e
    · rw [e] at hx; cases hx

theorem give_copy (hD : DOk P C) (h : Rep W0 F0 ρ s a w) {o : Oper} {c : Call} {x y : Operand} {T T2 : Nat} (hop : o.op = .call c) (hcal : c.callee = .builtin .copy) (hargs : c.args = #[x, y]) (hT : c.argTypes = #[T, T2])
    {av bv v : AV} (h1 : Val ⟨w, s.o, ρ⟩ av (a.eval x)) (h2 : Val ⟨w, s.o, ρ⟩ bv (a.eval y)) (ho : (copyPg C T T2 av bv).Out s v s') : Gives P W0 F0 o a w v s' := by
  unfold copyPg at ho
  split at ho
  · rename_i e hk
    split at ho
    · split at ho
      · rename_i t ht
        obtain ⟨hns, ho⟩ := out_nif ho
        simp only [Bool.not_eq_false'] at hns
        obtain ⟨dd, hdu, hkd⟩ := und hD hk (by simp)
        rw [kindB_sl hkd] at hdu
        rcases hD e with he | tke
        · rw [he] at ht; cases ht
        obtain ⟨tke⟩ := tke
        obtain ⟨hts, hzs, hpz⟩ := tke.ty t ht
        have hsz : tke.i.size = t.size := by rw [tke.size, hts]
        split at ho
        · rename_i q p off len _
          have hleaf := exP_leaf ho
          obtain ⟨ys, ro, ho, _, hp⟩ := exP_out h (h2.ce hleaf) ho
          obtain ⟨cc, hc, hdead, ho⟩ := ho
          dsimp only at ho
          split at ho
          · rename_i t' m xs hat
            obtain ⟨zs, hcast, ho⟩ := out_ofP ho
            obtain ⟨c', hput, ho⟩ := out_ofP ho
            obtain ⟨_, rfl, rfl⟩ := ho
            obtain ⟨ee, hz'⟩ := castL_some hcast
            subst ee
            have hz'' : ys.take len.toNat = zs := hz'
            subst hz''
            have hp0 := hp (fun _ => False) (fun b hb => hb.elim)
            obtain ⟨ad2, cap2, hy, hcap2, hfc⟩ := sl_cells (P := P) hp0
            obtain ⟨new, hnew, hpn⟩ := hfc (min ys.length len.toNat) (Nat.min_le_left _ _)
            have e1 : ys.take len.toNat = ys.take (min ys.length len.toNat) := by rw [Nat.min_comm, ← List.take_eq_take_min]
            have e2 : (ys.take len.toNat).length = min ys.length len.toNat := by rw [List.length_take, Nat.min_comm]
            have hvw := h1.view_eq
            have hlen0 : 0 ≤ len := by obtain ⟨n, _, _, _, hn, _⟩ := hvw; omega
            obtain ⟨n, ad, cap, w', hu, hn, hr, hst, hnone, hz⟩ := h.wr_view hvw hc hdead hat hput hns (vs := new.toList) (by rw [e2, e1]; exact hpn) (by rw [e2]; omega)
            refine ⟨.int .i64 (mn ys.length len), w', ρ, .inl ?_, hr, Val.mkInt _ _ _⟩
            have hmin : Nat.min ys.length n = min ys.length len.toNat := by
              show min ys.length n = _
              congr 1; omega
            have hres : ((min ys.length len.toNat : Nat) : Int) = mn ys.length len := by
              unfold mn; split <;> omega
            rw [hy, ← hsz] at hnew
            cases ad with
            | none =>
              have := hnone rfl
              subst this
              simp [execOp, hop, resolve, hcal, hargs, hT, invoke, builtin, Builtin.copy_, run_underlying hdu, hu, hy, Builtin.lenOf, hmin, run_sizeOf tke.hi, hnew, goInt, hres]
            | some xx =>
              have := hst P xx rfl
              simp [execOp, hop, resolve, hcal, hargs, hT, invoke, builtin, Builtin.copy_, run_underlying hdu, hu, hy, Builtin.lenOf, hmin, run_sizeOf tke.hi, hnew, this, goInt, hres]
          · exact ho.elim
        · exact ho.elim
      · exact ho.elim
    · exact ho.elim
  · exact ho.elim

theorem give_clear (hD : DOk P C) (h : Rep W0 F0 ρ s a w) {o : Oper} {c : Call} {x : Operand} {T : Nat} (hop : o.op = .call c) (hcal : c.callee = .builtin .clear) (hargs : c.args = #[x]) (hT : c.argTypes = #[T])
    {av v : AV} (h1 : Val ⟨w, s.o, ρ⟩ av (a.eval x)) (ho : (clearPg C T av).Out s v s') : Gives P W0 F0 o a w v s' := by
  unfold clearPg at ho
  split at ho
  · rename_i e hk
    split at ho
    · rename_i t ht
      obtain ⟨hns, ho⟩ := out_nif ho
      simp only [Bool.not_eq_false'] at hns
      obtain ⟨dd, hdu, hkd⟩ := und hD hk (by simp)
      rw [kindB_sl hkd] at hdu
      rcases hD e with he | tke
      · rw [he] at ht; cases ht
      obtain ⟨tke⟩ := tke
      obtain ⟨hts, hzs, hpz⟩ := tke.ty t ht
      have hsz : tke.i.size = t.size := by rw [tke.size, hts]
      have hz : tke.z.cells.size = t.size := by rw [hzs, hts]
      split at ho
      · rename_i q p off len _
        obtain ⟨cc, hc, hdead, ho⟩ := ho
        dsimp only at ho
        split at ho
        · rename_i t' m xs hat
          obtain ⟨zs, hcast, ho⟩ := out_ofP ho
          obtain ⟨c', hput, ho⟩ := out_ofP ho
          obtain ⟨_, rfl, rfl⟩ := ho
          obtain ⟨ee, hz'⟩ := castL_some hcast
          subst ee
          have hz'' : List.replicate len.toNat t.dflt = zs := hz'
          subst hz''
          have hvw := h1.view_eq
          have hlen0 : 0 ≤ len := by obtain ⟨n, _, _, _, hn, _⟩ := hvw; omega
          have hrow := zero_row (F := fun _ => False) (w := w) hz hpz len.toNat len.toNat (Nat.le_refl _)
          rw [List.take_of_length_le (by simp [hz])] at hrow
          obtain ⟨n, ad, cap, w', hu, hn, hr, hst, hnone, hz0⟩ := h.wr_view hvw hc hdead hat hput hns (vs := ((Array.range (len.toNat * tke.z.cells.size)).map fun i => tke.z.cells[i % tke.z.cells.size]!).toList) (by rw [List.length_replicate]; exact hrow) (by simp; omega)
          refine ⟨.tuple #[], w', ρ, .inl ?_, hr, Val.top _⟩
          have hnn : n = len.toNat := by omega
          by_cases hn0 : n = 0
          · have := hz0 hn0
            subst this
            rw [hn0] at hu
            cases ad <;> simp [execOp, hop, resolve, hcal, hargs, hT, invoke, builtin, Builtin.clear_, run_underlying hdu, hu]
          · cases ad with
            | none =>
              have := hnone rfl
              subst this
              simp [execOp, hop, resolve, hcal, hargs, hT, invoke, builtin, Builtin.clear_, run_underlying hdu, hu]
            | some xx =>
              have := hst P xx rfl
              have e1 : (Builtin.zeroCells tke.z.cells n).toList = ((Array.range (len.toNat * tke.z.cells.size)).map fun i => tke.z.cells[i % tke.z.cells.size]!).toList := by
                rw [hnn]; rfl
              rw [← e1] at this
              simp [execOp, hop, resolve, hcal, hargs, hT, invoke, builtin, Builtin.clear_, run_underlying hdu, hu, hn0, run_zeroValue tke.hi tke.hz, this]
        · exact ho.elim
      · exact ho.elim
    · exact ho.elim
  · exact ho.elim
end
end Go.Ev
