/- Parts of slices and strings, fields, elements, results of several values, conversions. -/
import Derived.Test.YtfdgkmligadcnaaEv9
set_option linter.unusedVariables false
set_option linter.unusedSimpArgs false
namespace Go.Ev
open Go
section
variable {P : Program} {C : Cx} {W0 : World} {F0 : Base} {ρ : Nat → Option Loc} {s s' : St} {a : Act} {w : World}

theorem give_len (hD : DOk P C) (h : Rep W0 F0 ρ s a w) {o : Oper} {c : Call} {v r : AV} {x : Operand} (hop : o.op = .call c) (hcal : c.callee = .builtin .len) (hargs : c.args.toList = [x]) (hv : Val ⟨w, s.o, ρ⟩ v (a.eval x))
    {T : Nat} (hT : c.argTypes.toList = [T]) (hk : (C.D T).k = .str ∨ ∃ e, (C.D T).k = .sl e) (ho : (lenPg v).Out s r s') (hk1 : ∀ b, v = .str b → (C.D T).k = .str) (hk2 : (∀ b, v ≠ .str b) → ∃ e, (C.D T).k = .sl e) : Gives P W0 F0 o a w r s' := by
  obtain ⟨rfl, n, rfl, hu⟩ := out_len h hv ho
  have hargs' : c.args = #[x] := by rw [← Array.toArray_toList (xs := c.args), hargs]
  have hT' : c.argTypes = #[T] := by rw [← Array.toArray_toList (xs := c.argTypes), hT]
  refine ⟨.int .i64 n, w, ρ, .inl ?_, h, Val.mkInt _ _ _⟩
  rcases hu with ⟨b, hb, hn, hvb⟩ | ⟨ad, cap, hb⟩
  · obtain ⟨d, hd, hkd⟩ := und hD (hk1 b hvb) (by simp)
    rw [kindB_str hkd] at hd
    simp [execOp, hop, resolve, hcal, hargs', hT', invoke, builtin, Builtin.len_, hb, run_underlying hd, goInt, hn]
  · have : ∀ b, v ≠ .str b := by
      rintro b rfl
      rw [hv.str_eq] at hb; cases hb
    obtain ⟨e, he⟩ := hk2 this
    obtain ⟨d, hd, hkd⟩ := und hD he (by simp)
    rw [kindB_sl hkd] at hd
    simp [execOp, hop, resolve, hcal, hargs', hT', invoke, builtin, Builtin.len_, hb, run_underlying hd, goInt]

theorem give_extract (h : Rep W0 F0 ρ s a w) {o : Oper} {x : Operand} {i : Nat} (hop : o.op = .extract x i) {v : AV}
    (ho : (rdX x fun a => match a with | .tup c => (match c.nth i with | some v => (.ret v : Pg AV) | none => .fail) | _ => .fail).Out s v s') : Gives P W0 F0 o a w v s' := by
  obtain ⟨av, h1, ho⟩ := out_rdX h ho
  split at ho
  · rename_i c
    split at ho
    · rename_i v' hv'
      obtain ⟨rfl, rfl⟩ := ho
      have key : ∀ {c : AV} {us : List Value} {i : Nat}, ValT ⟨w, s'.o, ρ⟩ c us → c.nth i = some v → ∃ u, us[i]? = some u ∧ Val1 ⟨w, s'.o, ρ⟩ v u := by
        intro c
        induction c with
        | cons A B iha ihb =>
          intro us i hu hn
          obtain ⟨u, r, rfl, k1, k2⟩ := hu
          cases i with
          | zero => simp [AV.nth] at hn; subst hn; exact ⟨u, rfl, k1⟩
          | succ i => simp only [AV.nth] at hn; simpa using ihb k2 hn
        | _ => intro us i hu hn; simp [AV.nth] at hn
      rcases h1 with (h1 | ⟨h1, _⟩ | ⟨_, h1, _⟩) | ⟨c', us, hc', hu, ht⟩
      · cases h1
      · simp [AV.agg] at h1
      · simp [AV.sh] at h1
      · cases hc'
        obtain ⟨u, hu', k⟩ := key ht hv'
        refine ⟨u, w, ρ, .inl ?_, h, .inl k⟩
        have : us[i]? = some u := by simpa using hu'
        simp [execOp, hop, hu, Instr.extract, this]
    · exact ho.elim
  · exact ho.elim

/-! bounds -/
theorem run_bound {x : Value} {n : Int} {k : IntKind} (hx : x = .int k n) {y : Nat} (h0 : 0 ≤ n) (h1 : n ≤ y) (code : BoundsCode) : (Instr.sliceBound x y code).run P w = .ok n.toNat w := by
  subst hx
  simp [Instr.sliceBound, asIntOf, h0, h1]

theorem out_cut {E : Env} {n : Nat} {lo hi : Option AV} {k : Int → Int → Pg AV} {r : AV} (ho : (cutPg n lo hi k).Out s r s') {vlo vhi : Option Value}
    (h1 : (lo = none ∧ vlo = none) ∨ ∃ v u, lo = some v ∧ vlo = some u ∧ Val E v u) (h2 : (hi = none ∧ vhi = none) ∨ ∃ v u, hi = some v ∧ vhi = some u ∧ Val E v u) :
    ∃ l h : Int, 0 ≤ l ∧ l ≤ h ∧ h ≤ n ∧ (k l h).Out s r s' ∧ (∀ isSlice (cap : Nat), n ≤ cap → (Instr.sliceBounds isSlice n cap vlo vhi none).run P w = .ok (l.toNat, h.toNat, cap) w) := by
  unfold cutPg at ho
  split at ho
  · rename_i l hh hl hh'
    obtain ⟨a1, a2, a3, a4, ho⟩ := ho
    refine ⟨l, hh, a3, a4, a2, ho, fun isSlice cap hcap => ?_⟩
    have hi' : (vhi = none ∧ hh = n) ∨ ∃ k, vhi = some (.int k hh) := by
      rcases h2 with ⟨rfl, rfl⟩ | ⟨v, u, rfl, rfl, hv⟩
      · simp [bound] at hh'; exact .inl ⟨rfl, hh'.symm⟩
      · cases v <;> simp [bound] at hh'
        subst hh'
        exact .inr ⟨_, by rw [hv.int_eq]⟩
    have lo' : (vlo = none ∧ l = 0) ∨ ∃ k, vlo = some (.int k l) := by
      rcases h1 with ⟨rfl, rfl⟩ | ⟨v, u, rfl, rfl, hv⟩
      · simp [bound] at hl; exact .inl ⟨rfl, hl.symm⟩
      · cases v <;> simp [bound] at hl
        subst hl
        exact .inr ⟨_, by rw [hv.int_eq]⟩
    unfold Instr.sliceBounds
    rcases hi' with ⟨rfl, rfl⟩ | ⟨k2, rfl⟩ <;> rcases lo' with ⟨rfl, rfl⟩ | ⟨k1, rfl⟩
    · simp
    · simp [run_bound rfl a3 a4]
    · simp [run_bound (P := P) (w := w) (rfl : Value.int k2 hh = .int k2 hh) a1 (y := cap) (by omega)]
    · simp [run_bound (P := P) (w := w) (rfl : Value.int k2 hh = .int k2 hh) a1 (y := cap) (by omega), run_bound (P := P) (w := w) (rfl : Value.int k1 l = .int k1 l) a3 (y := hh.toNat) (by omega)]
  · exact ho.elim

theorem extract_lo_hi (h : Rep W0 F0 ρ s a w) {r : AV} {lo hi : Option Operand} {k : Option AV → Option AV → Pg AV} (ho : (rdXo lo fun l => rdXo hi fun h => k l h).Out s r s') :
    ∃ l hh, (k l hh).Out s r s' ∧ ((l = none ∧ lo.map a.eval = none) ∨ ∃ v u, l = some v ∧ lo.map a.eval = some u ∧ Val ⟨w, s.o, ρ⟩ v u) ∧ ((hh = none ∧ hi.map a.eval = none) ∨ ∃ v u, hh = some v ∧ hi.map a.eval = some u ∧ Val ⟨w, s.o, ρ⟩ v u) := by
  rcases out_rdXo h ho with ⟨e1, ho1⟩ | ⟨y, av, e1, hv, ho1⟩ <;> rcases out_rdXo h ho1 with ⟨e2, ho2⟩ | ⟨z, bv, e2, hv', ho2⟩
  · exact ⟨_, _, ho2, .inl ⟨rfl, by rw [e1]; rfl⟩, .inl ⟨rfl, by rw [e2]; rfl⟩⟩
  · exact ⟨_, _, ho2, .inl ⟨rfl, by rw [e1]; rfl⟩, .inr ⟨_, _, rfl, by rw [e2]; rfl, hv'⟩⟩
  · exact ⟨_, _, ho2, .inr ⟨_, _, rfl, by rw [e1]; rfl, hv⟩, .inl ⟨rfl, by rw [e2]; rfl⟩⟩
  · exact ⟨_, _, ho2, .inr ⟨_, _, rfl, by rw [e1]; rfl, hv⟩, .inr ⟨_, _, rfl, by rw [e2]; rfl, hv'⟩⟩

/-- a part of a slice that is only read -/
theorem pu_part {F : Nat → Prop} {t : Ty} {xs : List t.den} {n cap : Nat} {ad : Option Addr} (hp : Pu w F (.sl t) xs [.slice ad n cap]) {l h : Int} (h0 : 0 ≤ l) (h1 : l ≤ h) (h2 : h ≤ xs.length) :
    Pu w F (.sl t) (win xs l (h - l)) [.slice (if cap = l.toNat then ad else ad.map (·.add (l.toNat * t.size))) (h.toNat - l.toNat) (cap - l.toNat)] := by
  obtain ⟨a', cap', hc, hcap, hp⟩ := hp
  simp only [List.cons.injEq, Value.slice.injEq, and_true] at hc
  obtain ⟨rfl, rfl, rfl⟩ := hc
  have hlen : (win xs l (h - l)).length = h.toNat - l.toNat := by
    have := win_length xs (off := l) (len := h - l) h0 (by omega) (by omega)
    omega
  refine ⟨_, _, by rw [hlen], by rw [hlen]; omega, ?_⟩
  by_cases e : h.toNat - l.toNat = 0
  · left; exact List.eq_nil_of_length_eq_zero (by rw [hlen]; exact e)
  · right
    rcases hp with hp | ⟨b, off, cells, T, fr, rfl, hF, hb, hs, hel⟩
    · subst hp; simp at h2; omega
    · have hne : ¬ cap = l.toNat := by omega
      refine ⟨b, off + l.toNat * t.size, cells, T, fr, by rw [if_neg hne]; simp [addr_add], hF, hb, ?_, ?_⟩
      · rw [hlen]
        have : (l.toNat + (h.toNat - l.toNat)) * t.size ≤ xs.length * t.size := Nat.mul_le_mul_right _ (by omega)
        rw [Nat.add_mul] at this; omega
      · intro i hi
        rw [hlen] at hi
        rw [win_getD xs h0 (by omega)]
        have := hel (l.toNat + i) (by omega)
        rwa [Nat.add_mul, ← Nat.add_assoc] at this

theorem run_slice_sl {T e : TypeId} {i : TypeInfo} (hd : P.underlying T = some (.slice e)) (hi : P.info? e = some i) {ad : Option Addr} {n cap : Nat} {lo hi' : Option Value} {l h : Nat}
    (hb : (Instr.sliceBounds true n cap lo hi' none).run P w = .ok (l, h, cap) w) :
    (Instr.sliceAt T (.slice ad n cap) lo hi' none).run P w = .ok (.slice (if cap = l then ad else ad.map (·.add (l * i.size))) (h - l) (cap - l)) w := by
  simp [Instr.sliceAt, Instr.slice, run_underlying hd, hb, run_sizeOf hi]

theorem pu_self {t : Ty} {xs : List t.den} {n cap : Nat} {ad : Option Addr} {F : Nat → Prop} (hp : Pu w F (.sl t) xs [.slice ad n cap]) : xs.length = n ∧ n ≤ cap := by
  obtain ⟨a', cap', hc, hcap, _⟩ := hp
  simp only [List.cons.injEq, Value.slice.injEq, and_true] at hc
  obtain ⟨rfl, rfl, rfl⟩ := hc
  exact ⟨rfl, hcap⟩

/-- a part of a view -/
theorem view_part {E : Env} {o : Nat} {p : List PS} {off len : Int} {n cap : Nat} {ad : Option Addr} (hv : ViewOf E o p off len (.slice ad n cap)) {c : AV} (hc : E.s o = some c) {k : Nat} {t : Ty} {m : Nat}
    (hsh : Sh.off p c.sh = some (k, .arr t m) ∨ Sh.off p c.sh = some (k, .bk t m)) {l h : Int} (h0 : 0 ≤ l) (h1 : l ≤ h) (h2 : h ≤ len) :
    ViewOf E o p (off + l) (h - l) (.slice (if cap = l.toNat then ad else ad.map (·.add (l.toNat * t.size))) (h.toNat - l.toNat) (cap - l.toNat)) := by
  obtain ⟨n', a', cap', hu, hn, hcap, c', hc', hk⟩ := hv
  simp only [Value.slice.injEq] at hu
  obtain ⟨rfl, rfl, rfl⟩ := hu
  rw [hc] at hc'
  cases hc'
  refine ⟨_, _, _, rfl, by omega, by omega, c, hc, ?_⟩
  rcases hk with hk | ⟨k', t', m', hsh', g0, gm, hk⟩
  · exact .inl hk
  · have e : k' = k ∧ t' = t ∧ m' = m := by
      rcases hsh with e | e <;> rcases hsh' with e' | e' <;> rw [e] at e' <;> simp at e' <;> exact ⟨e'.1.symm, e'.2.1.symm, e'.2.2.symm⟩
    obtain ⟨rfl, rfl, rfl⟩ := e
    refine .inr ⟨k', t', m', hsh, by omega, by omega, ?_⟩
    by_cases hz : cap = l.toNat
    · left; omega
    · rcases hk with hk | ⟨loc, cells, T, fr, hl, rfl, hb, hs⟩
      · left; omega
      · right
        have e3 : (off + l).toNat = off.toNat + l.toNat := by omega
        refine ⟨loc, cells, T, fr, hl, ?_, hb, ?_⟩
        · rw [if_neg hz, e3, Nat.add_mul]
          simp [addr_add, Nat.add_assoc]
        · rw [e3]
          rwa [show off.toNat + l.toNat + (cap - l.toNat) = off.toNat + cap by omega]

theorem give_slice (hD : DOk P C) (hDs : ∀ T e, ((C.D T).k = .sl e ∨ ∃ m, (C.D T).k = .arr m e) → (C.D e).k ≠ .other) (h : Rep W0 F0 ρ s a w) {o : Oper} {T : Nat} {x : Operand} {lo hi : Option Operand} (hop : o.op = .slice T x lo hi none) {v : AV}
    (ho : (rdX x fun a => rdXo lo fun l => rdXo hi fun h => slicePg C T a l h).Out s v s') : Gives P W0 F0 o a w v s' := by
  obtain ⟨av, h1, ho1⟩ := out_rdX h ho
  clear ho
  obtain ⟨l, hh, ho, hlo, hhi⟩ := extract_lo_hi h ho1
  clear ho1
  have fin : ∀ {u : Value}, (Instr.sliceAt T (a.eval x) (lo.map a.eval) (hi.map a.eval) none).run P w = .ok u w → Val ⟨w, s.o, ρ⟩ v u → s' = s → Gives P W0 F0 o a w v s' := by
    rintro u hr hv rfl
    exact ⟨u, w, ρ, .inl (by simp [execOp, hop, hr]), h, hv⟩
  unfold slicePg at ho
  split at ho
  · -- an array
    rename_i q p
    split at ho
    · rename_i m e hk
      obtain ⟨c, hc, hd, ho⟩ := ho
      dsimp only at ho
      split at ho
      · rename_i t n xs hat
        obtain ⟨⟨hsz, rfl⟩, ho⟩ := out_ifp ho
        obtain ⟨l', h', b0, b1, b2, ho, hb⟩ := out_cut (P := P) (w := w) ho hlo hhi
        obtain ⟨rfl, rfl⟩ := ho
        obtain ⟨d, hdu, hkd⟩ := und hD hk (by simp)
        rw [kindB_arr hkd] at hdu
        obtain ⟨tke⟩ := tok_of_kind hD (hDs T e (.inr ⟨_, hk⟩))
        obtain ⟨ad, hu, hx⟩ := h1.ref_eq
        obtain ⟨loc, k, e', cells, T', fr, cs, g1, g2, g3, g4, g5, g6, g7, g8, g9⟩ := h.at_ref hx hc hd
        have hsh := at_off hat g2
        simp only [AV.sh] at hsh
        subst hsh
        refine fin (u := .slice (some (if m = l'.toNat then ad else ad.add (l'.toNat * tke.i.size))) (h'.toNat - l'.toNat) (m - l'.toNat)) ?_ (Val.leaf rfl ⟨_, rfl, ?_⟩) rfl
        · have := hb false m (Nat.le_refl _)
          simp [Instr.sliceAt, hu, run_underlying hdu, Instr.sureAddr, this, run_sizeOf tke.hi]
        · refine ⟨_, _, _, rfl, by omega, by omega, c, hc, .inr ⟨k, t, m, .inl g2, by omega, by omega, ?_⟩⟩
          by_cases hz : m = l'.toNat
          · left; omega
          · right
            refine ⟨loc, cells, T', fr, g1, ?_, g4, ?_⟩
            · rw [if_neg hz, g3, addr_add, tke.size, ← hsz]
            · simp only [Sh.size] at g9
              have : l'.toNat + (m - l'.toNat) = m := by omega
              rw [this]; omega
      · exact ho.elim
    · exact ho.elim
  · -- an array behind a pointer that is only read
    rename_i n t xs
    split at ho
    · rename_i m e hk
      obtain ⟨⟨hsz, rfl⟩, ho⟩ := out_ifp ho
      obtain ⟨l', h', b0, b1, b2, ho, hb⟩ := out_cut (P := P) (w := w) ho hlo hhi
      obtain ⟨rfl, rfl⟩ := ho
      obtain ⟨d, hdu, hkd⟩ := und hD hk (by simp)
      rw [kindB_arr hkd] at hdu
      obtain ⟨tke⟩ := tok_of_kind hD (hDs T e (.inr ⟨_, hk⟩))
      obtain ⟨ad, hu, b, off, cells, T', fr, hx, hF, hbb, hs, hp⟩ := h1.pref_eq
      have hlx : List.length xs = m := hp.1
      have hps : Pu w (Env.F ⟨w, s'.o, ρ⟩) (.sl t) xs [.slice (some ad) m m] := by
        refine ⟨some ad, m, by rw [hlx], by omega, .inr ⟨b, off, cells, T', fr, by rw [hx], hF, hbb, by rw [hlx]; exact hs, fun i hi => ?_⟩⟩
        have := hp.2.2 i (by omega)
        have hle := mul_succ_le (k := t.size) (show i < m by omega)
        have hs' : off + m * t.size ≤ cells.size := hs
        rw [seg_sub (n := m * t.size) hle]
        exact this
      refine fin (u := .slice (if m = l'.toNat then some ad else (some ad).map (·.add (l'.toNat * t.size))) (h'.toNat - l'.toNat) (m - l'.toNat)) ?_ (Val.leaf rfl (pu_part hps b0 b1 (by omega))) rfl
      have := hb false m (Nat.le_refl _)
      by_cases hz : m = l'.toNat
      · simp [Instr.sliceAt, hu, run_underlying hdu, Instr.sureAddr, this, run_sizeOf tke.hi, ← hz]
      · simp [Instr.sliceAt, hu, run_underlying hdu, Instr.sureAddr, this, run_sizeOf tke.hi, hz, tke.size, ← hsz]
    · exact ho.elim
  · -- a string
    rename_i b
    split at ho
    · rename_i hk
      obtain ⟨l', h', b0, b1, b2, ho, hb⟩ := out_cut (P := P) (w := w) ho hlo hhi
      obtain ⟨rfl, rfl⟩ := ho
      obtain ⟨d, hdu, hkd⟩ := und hD hk (by simp)
      rw [kindB_str hkd] at hdu
      refine fin (u := .string (b.extract l'.toNat h'.toNat)) ?_ (Val.mkStr _ _) rfl
      have := hb false b.size (Nat.le_refl _)
      simp [Instr.sliceAt, Instr.slice, h1.str_eq, run_underlying hdu, this]
    · exact ho.elim
  · -- a slice that is only read
    rename_i t xs
    split at ho
    · rename_i e hk
      obtain ⟨hsz, ho⟩ := out_ifp ho
      obtain ⟨l', h', b0, b1, b2, ho, hb⟩ := out_cut (P := P) (w := w) ho hlo hhi
      obtain ⟨rfl, rfl⟩ := ho
      obtain ⟨d, hdu, hkd⟩ := und hD hk (by simp)
      rw [kindB_sl hkd] at hdu
      obtain ⟨tke⟩ := tok_of_kind hD (hDs T e (.inl hk))
      have hp := h1.lst_eq
      obtain ⟨ad, cap, hu, hcap, _⟩ := hp
      have hu' : a.eval x = .slice ad xs.length cap := by simpa using hu
      have hp := h1.lst_eq
      rw [hu'] at hp
      refine fin (u := .slice (if cap = l'.toNat then ad else ad.map (·.add (l'.toNat * t.size))) (h'.toNat - l'.toNat) (cap - l'.toNat)) ?_ (Val.leaf rfl (pu_part hp b0 b1 b2)) rfl
      rw [hu', run_slice_sl hdu tke.hi (hb true cap hcap), tke.size, ← hsz]
    · exact ho.elim
  · -- a view
    rename_i q p off len
    split at ho
    · rename_i e hk
      obtain ⟨c, hc, hd, ho⟩ := ho
      dsimp only at ho
      obtain ⟨d, hdu, hkd⟩ := und hD hk (by simp)
      rw [kindB_sl hkd] at hdu
      obtain ⟨tke⟩ := tok_of_kind hD (hDs T e (.inl hk))
      have key : ∀ {t : Ty} {m : Nat} {xs : List t.den} {d : AV}, AV.at p c = some d → (d = .arr t m xs ∨ (d = .bk t xs ∧ m = xs.length)) → t.size = (C.D e).size →
          (cutPg len l hh fun l h => .ret (.view q p (off + l) (h - l))).Out s v s' → Gives P W0 F0 o a w v s' := by
        intro t m xs d hat hdd hsz ho
        obtain ⟨n, ad, cap, hu, hn, hcap, h0, hm, hk, _⟩ := h.view h1.view_eq hc hd hat hdd
        rw [← hn] at ho
        obtain ⟨l', h', b0, b1, b2, ho, hb⟩ := out_cut (P := P) (w := w) ho hlo hhi
        obtain ⟨rfl, rfl⟩ := ho
        have hvw := h1.view_eq
        rw [hu] at hvw
        refine fin (u := .slice (if cap = l'.toNat then ad else ad.map (·.add (l'.toNat * t.size))) (h'.toNat - l'.toNat) (cap - l'.toNat)) ?_ (Val.leaf rfl ⟨_, rfl, ?_⟩) rfl
        · rw [hu, run_slice_sl hdu tke.hi (hb true cap hcap), tke.size, ← hsz]
        · obtain ⟨n', a', cap', hu', hn', hcap', c', hc', hk'⟩ := h1.view_eq
          have hc'' : s'.o q = some c' := hc'
          rw [hc] at hc''
          cases hc''
          rcases hk' with hk' | ⟨k', t', m', hsh', _, _, _⟩
          · exact absurd hk' (AV.dead_sh hd)
          · have e1 : t' = t ∧ m' = m := by
              have hds : d.sh = .arr t m ∨ d.sh = .bk t m := by
                rcases hdd with rfl | ⟨rfl, rfl⟩
                · exact .inl rfl
                · exact .inr rfl
              rcases hsh' with e' | e' <;> have := at_off hat e' <;> rw [this] at hds <;> rcases hds with g | g <;> cases g <;> exact ⟨rfl, rfl⟩
            obtain ⟨rfl, rfl⟩ := e1
            exact view_part hvw hc hsh' b0 b1 (by omega)
      split at ho
      · rename_i t m xs hat
        obtain ⟨hsz, ho⟩ := out_ifp ho
        exact key hat (.inl rfl) hsz ho
      · rename_i t xs hat
        obtain ⟨hsz, ho⟩ := out_ifp ho
        exact key hat (.inr ⟨rfl, rfl⟩) hsz ho
      · exact ho.elim
    · exact ho.elim
  · -- a row of one's own
    rename_i q
    split at ho
    · rename_i e hk
      obtain ⟨c, hc, hd, ho⟩ := ho
      dsimp only at ho
      split at ho
      · rename_i t xs
        obtain ⟨hsz, ho⟩ := out_ifp ho
        obtain ⟨l', h', b0, b1, b2, ho, hb⟩ := out_cut (P := P) (w := w) ho hlo hhi
        obtain ⟨rfl, rfl⟩ := ho
        obtain ⟨d, hdu, hkd⟩ := und hD hk (by simp)
        rw [kindB_sl hkd] at hdu
        obtain ⟨tke⟩ := tok_of_kind hD (hDs T e (.inl hk))
        obtain ⟨ad, cap, hu, hcap, hk', _⟩ := h.full h1.full_eq hc
        refine fin (u := .slice (if cap = l'.toNat then ad else ad.map (·.add (l'.toNat * t.size))) (h'.toNat - l'.toNat) (cap - l'.toNat)) ?_ (Val.leaf rfl ⟨_, rfl, ?_⟩) rfl
        · rw [hu, run_slice_sl hdu tke.hi (hb true cap hcap), tke.size, ← hsz]
        · have hv0 : ViewOf ⟨w, s'.o, ρ⟩ q [] 0 xs.length (.slice ad xs.length cap) := by
            refine ⟨_, _, _, rfl, rfl, hcap, .bk t xs, hc, .inr ⟨0, t, xs.length, .inr rfl, by omega, by omega, ?_⟩⟩
            rcases hk' with ⟨hk', _⟩ | ⟨loc, cells, T', fr, cs, g1, g2, g3, g4, _⟩
            · exact .inl hk'
            · exact .inr ⟨loc, cells, T', fr, g1, by simp [g2], g3, by simpa using g4⟩
          have := view_part (E := ⟨w, s'.o, ρ⟩) (c := .bk t xs) (k := 0) (t := t) (m := xs.length) hv0 hc (.inr rfl) b0 b1 b2
          rwa [Int.zero_add] at this
      · exact ho.elim
    · exact ho.elim
  · -- nil
    split at ho
    · rename_i e hk
      obtain ⟨l', h', b0, b1, b2, ho, hb⟩ := out_cut (n := 0) (P := P) (w := w) ho hlo hhi
      obtain ⟨rfl, rfl⟩ := ho
      obtain ⟨d, hdu, hkd⟩ := und hD hk (by simp)
      rw [kindB_sl hkd] at hdu
      obtain ⟨tke⟩ := tok_of_kind hD (hDs T e (.inl hk))
      refine fin (u := .slice none 0 0) ?_ (Val.leaf rfl rfl) rfl
      rw [h1.nils_eq, run_slice_sl hdu tke.hi (hb true 0 (Nat.le_refl _))]
      have e1 : l'.toNat = 0 := by omega
      have e2 : h'.toNat = 0 := by omega
      simp [e1, e2]
    · exact ho.elim
  · exact ho.elim
end
end Go.Ev
