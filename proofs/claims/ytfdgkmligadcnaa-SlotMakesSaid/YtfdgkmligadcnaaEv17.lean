/- Structs and rows that are written out; the greatest and the least. -/
import Derived.Test.YtfdgkmligadcnaaEv16
set_option linter.unusedVariables false
set_option linter.unusedSimpArgs false
namespace Go.Ev
open Go
section
variable {P : Program} {C : Cx} {W0 : World} {F0 : Base} {ρ : Nat → Option Loc} {s s' : St} {a : Act} {w : World}

theorem fold_set (vs : List Value) : ∀ (k j : Nat) (cs : Array Value), k + j + vs.length ≤ cs.size → ((vs.zipIdx j).foldl (fun cs (x : Value × Nat) => cs.setIfInBounds (k + x.2) x.1) cs).toList = spl cs.toList (k + j) vs := by
  induction vs with
  | nil => intro k j cs h; simp [spl]
  | cons v r ih =>
    intro k j cs h
    simp only [List.length_cons] at h
    simp only [List.zipIdx_cons, List.foldl_cons]
    rw [ih k (j + 1) _ (by simp; omega)]
    apply List.ext_getElem?
    intro i
    rw [spl_get (by simp; omega), spl_get (by simp; omega)]
    simp only [Array.toList_setIfInBounds, List.length_cons]
    by_cases c1 : i < k + j
    · rw [if_pos (by omega), if_pos c1, List.getElem?_set, if_neg (by omega)]
    · rw [if_neg c1]
      by_cases c2 : i = k + j
      · subst c2
        rw [if_pos (by omega), if_pos (by omega), List.getElem?_set, if_pos rfl]
        simp; omega
      · rw [if_neg (by omega)]
        by_cases c3 : i < k + j + (r.length + 1)
        · rw [if_pos (by omega), if_pos c3]
          rw [show i - (k + j) = (i - (k + (j + 1))) + 1 by omega, List.getElem?_cons_succ]
        · rw [if_neg (by omega), if_neg c3, List.getElem?_set, if_neg (by omega)]

theorem fill_cons (place : Nat → Option (Nat × Nat)) (cells : Array Value) (i : Nat) (v : Value) (rest : List (Nat × Value)) {off size : Nat} (hp : place i = some (off, size)) (hs : v.cells.size = size) (hf : off + size ≤ cells.size) :
    Instr.fill place cells ((i, v) :: rest) = Instr.fill place (splA cells off v.cells.toList) rest := by
  simp only [Instr.fill, hp]
  have h1 : ¬ (v.cells.size ≠ size || decide (off + v.cells.size > cells.size)) = true := by
    simp [hs]; omega
  rw [if_neg h1]
  congr 1
  have := fold_set v.cells.toList off 0 cells (by simp; omega)
  rw [Nat.add_zero] at this
  apply Array.ext'
  show _ = (spl cells.toList off v.cells.toList).toArray.toList
  rw [List.toList_toArray, ← this]
  congr 1
  rw [← Array.foldl_toList]
  simp [Array.toList_zipIdx]

theorem setParts_fill {E : Env} {fs : List (Nat × Nat)} {place : Nat → Option (Nat × Nat)} (hpl : ∀ (i ft off : Nat), fs[i]? = some (ft, off) → place i = some (off, (C.D ft).size)) :
    ∀ {is : List Nat} {vs : List AV} {us : List Value} {c c' : AV} {cells : Array Value}, Vals E vs us → setParts C fs (is.zip vs) c = some c' → Ce E c cells.toList → ∃ cells', Instr.fill place cells (is.zip us) = some cells' ∧ Ce E c' cells'.toList ∧ c'.agg = c.agg := by
  intro is
  induction is with
  | nil =>
    intro vs us c c' cells hv h hc
    simp [setParts] at h
    subst h
    exact ⟨cells, by simp [Instr.fill], hc, rfl⟩
  | cons i is ih =>
    intro vs us c c' cells hv h hc
    cases vs with
    | nil =>
      simp only [Vals] at hv
      subst hv
      simp [setParts] at h
      subst h
      exact ⟨cells, by simp [Instr.fill], hc, rfl⟩
    | cons v vs =>
      obtain ⟨u, us', rfl, hu, hv⟩ := hv
      simp only [List.zip_cons_cons, setParts] at h
      split at h
      · rename_i ft off hf
        split at h
        · rename_i k e hn
          cases hb : (k.beq off && e.size.beq (C.D ft).size && !v.dead && !bkB v) with
          | false => rw [hb] at h; cases h
          | true =>
            rw [hb] at h
            simp only [cond_true] at h
            simp only [Bool.and_eq_true, Bool.not_eq_true'] at hb
            obtain ⟨⟨⟨b1, b2⟩, b3⟩, b4⟩ := hb
            have b1 := Nat.eq_of_beq_eq_true b1
            have b2 := Nat.eq_of_beq_eq_true b2
            subst b1
            split at h
            · rename_i c1 hput
              obtain ⟨hce, _⟩ := hu.cells (AV.dead_sh b3) (by rintro t xs rfl; simp [bkB] at b4)
              have hoff : Sh.off [.fld i] c.sh = some (k, e) := by simp [Sh.off, hn]
              obtain ⟨p1, p2⟩ := ce_put hput hoff hc hce
              have hle := off_le hoff
              have hlen := hc.len
              have hus : u.cells.size = (C.D ft).size := by rw [← b2, ← p2]; simp
              obtain ⟨cells', h1, h2, h3⟩ := ih hv h (cells := splA cells k u.cells.toList) (by rw [splA, List.toList_toArray]; exact p1)
              refine ⟨cells', ?_, h2, h3.trans ?_⟩
              · simp only [List.zip_cons_cons]
                rw [fill_cons place cells i u _ (hpl i ft k hf) hus (by simp at hlen; omega)]
                exact h1
              · have := put_sh hput
                cases c <;> simp [AV.sh, Sh.nth] at hn <;> cases c1 <;> simp_all [AV.sh, AV.agg]
            · cases h
        · cases h
      · cases h

theorem mapM_all {α β : Type} {f : α → Option β} {g : α → β} : ∀ {l : List α}, (∀ x ∈ l, f x = some (g x)) → l.mapM f = some (l.map g)
  | [], _ => rfl
  | x :: r, h => by
    have h1 := h x (by simp)
    have h2 := mapM_all (l := r) fun y hy => h y (by simp [hy])
    simp [h1, h2]

theorem give_build (hD : DOk P C) (h : Rep W0 F0 ρ s a w) {o : Oper} {T : Nat} {parts : Array (Nat × Operand)} (hop : o.op = .build T parts) {v : AV}
    (ho : (rdXs (parts.toList.map (·.2)) fun vs => buildPg C T (parts.toList.map (·.1)) vs).Out s v s') : Gives P W0 F0 o a w v s' := by
  obtain ⟨vs, hvs, ho1⟩ := out_rdXs h ho
  clear ho
  have ho := ho1
  clear ho1
  unfold buildPg at ho
  have hzip : (parts.map fun (x : Nat × Operand) => (x.1, a.eval x.2)).toList = (parts.toList.map (·.1)).zip ((parts.toList.map (·.2)).map a.eval) := by
    rw [Array.toList_map, List.map_map]
    induction parts.toList with
    | nil => rfl
    | cons x r ih => simp [ih]
  have fin : ∀ {cells : Array Value}, P.built T (parts.map fun (x : Nat × Operand) => (x.1, a.eval x.2)).toList = some cells → v.agg = true → Ce ⟨w, s.o, ρ⟩ v cells.toList → s' = s → Gives P W0 F0 o a w v s' := by
    intro cells hb hagg hc hs
    subst hs
    refine ⟨.agg cells, w, ρ, .inl ?_, h, .inl (.inr (.inl ⟨hagg, cells.toList, by simp, hc⟩))⟩
    have := run_build (P := P) w T (parts.map fun (x : Nat × Operand) => (x.1, a.eval x.2)) cells hb
    simp only [execOp, hop]
    simp [this]
  split at ho
  · rename_i fs hk
    obtain ⟨hb, ho⟩ := out_bif ho
    simp only [Bool.and_eq_true, Bool.not_eq_true'] at hb
    obtain ⟨⟨b1, b2⟩, b3⟩ := hb
    obtain ⟨c', hset, rfl, rfl⟩ := out_ofP ho
    rcases hD T with e | tk
    · rw [e] at hk; cases hk
    obtain ⟨tk⟩ := tk
    obtain ⟨hz, _, _⟩ := tk.zero b2
    obtain ⟨fields, hd, hfs⟩ := kindB_st (hk ▸ tk.kind)
    have hall : ∀ {l : List (Nat × Nat)}, allOk C l = true → ∀ x ∈ l, (C.D x.1).k.ok = true := by
      intro l
      induction l with
      | nil => intro _ x hx; cases hx
      | cons y r ih =>
        intro h x hx
        obtain ⟨y1, y2⟩ := y
        simp only [allOk, Bool.and_eq_true] at h
        rcases List.mem_cons.1 hx with rfl | hx
        · exact h.1
        · exact ih h.2 x hx
    have hinfo : ∀ f ∈ fields.toList, ∃ i, P.info? f.type = some i ∧ i.size = (C.D f.type).size := by
      intro f hf
      have : (f.type, f.offset) ∈ fs := by rw [← hfs]; exact List.mem_map.2 ⟨f, hf, rfl⟩
      have hok := hall b1 _ this
      obtain ⟨tkf⟩ := tok_of_kind hD (T := f.type) (fun e => by rw [e] at hok; simp [TK.ok] at hok)
      exact ⟨tkf.i, tkf.hi, tkf.size⟩
    have hplaces : fields.toList.mapM (fun f => (P.info? f.type).map fun i => (f.offset, i.size)) = some (fields.toList.map fun f => (f.offset, (C.D f.type).size)) := by
      refine mapM_all fun f hf => ?_
      obtain ⟨i, hi, hs⟩ := hinfo f hf
      simp [hi, hs]
    obtain ⟨cells', h1, h2, h3⟩ := setParts_fill (C := C) (E := ⟨w, s'.o, ρ⟩) (place := ((fields.toList.map fun f => (f.offset, (C.D f.type).size)).toArray[·]?)) (fun i ft off hf => by
      obtain ⟨fd, e1, e2, e3⟩ := st_field hfs hf
      have : fields.toList[i]? = some fd := by simpa using e1
      simp [this, e2, e3]) hvs hset (hz _)
    refine fin (cells := cells') ?_ (h3.trans b3) h2 rfl
    unfold Program.built
    rw [tk.hi, tk.hd, hd]
    simp only [tk.hz, hplaces]
    rw [hzip]
    exact h1
  · rename_i n e hk
    split at ho
    · obtain ⟨hb, rfl, rfl⟩ := out_bif ho
      simp only [Bool.and_eq_true, Bool.not_eq_true'] at hb
      obtain ⟨⟨b1, b2⟩, b3⟩ := hb
      rcases hD T with e0 | tk
      · rw [e0] at hk; cases hk
      obtain ⟨tk⟩ := tk
      obtain ⟨hz, _, _⟩ := tk.zero b2
      have hd := kindB_arr (hk ▸ tk.kind)
      obtain ⟨tke⟩ := tok_of_kind hD (T := e) (fun e0 => by rw [e0] at b1; simp [TK.ok] at b1)
      have hnil : parts.toList.map (fun x => a.eval x.2) = [] := by
        have : (parts.toList.map (·.2)).map a.eval = [] := hvs
        simpa [List.map_map] using this
      have hp0 : parts.toList = [] := by simpa using hnil
      refine fin (cells := tk.z.cells) ?_ b3 (hz _) rfl
      unfold Program.built
      rw [tk.hi, tk.hd, hd]
      simp only [tk.hz, tke.hi]
      rw [hzip, hp0]
      simp [Instr.fill]
    · exact ho.elim
  · exact ho.elim

theorem litOf_pu {E : Env} {t : Ty} : ∀ {vs : List AV} {us : List Value} {xs : List t.den}, Vals E vs us → litOf t vs = some xs → xs.length = us.length ∧ ∀ (i : Nat) (u : Value) (x : t.den), us[i]? = some u → xs[i]? = some x → Pu E.w E.F t x u.cells.toList := by
  intro vs
  induction vs with
  | nil =>
    intro us xs hv h
    simp only [Vals] at hv
    subst hv
    simp [litOf] at h
    subst h
    exact ⟨rfl, fun i u x hu => by simp at hu⟩
  | cons v r ih =>
    intro us xs hv h
    obtain ⟨u, us', rfl, hu, hv⟩ := hv
    simp only [litOf] at h
    split at h
    · rename_i x hx
      split at h
      · rename_i xs' hxs
        simp at h
        subst h
        obtain ⟨h1, h2⟩ := ih hv hxs
        have hsh : v.sh ≠ .bad := by
          intro e
          cases v <;> simp [AV.sh] at e <;> cases t <;> simp [ofAV] at hx
        have hbk : ∀ t' ys, v ≠ .bk t' ys := by
          rintro t' ys rfl
          cases t <;> simp [ofAV] at hx
        obtain ⟨hce, _⟩ := hu.cells hsh hbk
        obtain ⟨hp, _⟩ := pu_ofAV hx hce
        refine ⟨by simp [h1], fun i u' x' hu' hx' => ?_⟩
        cases i with
        | zero => simp at hu' hx'; subst hu' hx'; exact hp
        | succ i => exact h2 i u' x' (by simpa using hu') (by simpa using hx')
      · cases h
    · cases h

theorem isRange_spec : ∀ {is : List Nat} {j : Nat}, isRange is j = true → ∀ i q, is[i]? = some q → q = j + i := by
  intro is
  induction is with
  | nil => intro j _ i q h; simp at h
  | cons x r ih =>
    intro j h i q hq
    simp only [isRange, Bool.and_eq_true] at h
    cases i with
    | zero => simp at hq; subst hq; rw [Nat.eq_of_beq_eq_true h.1]; omega
    | succ i => have := ih h.2 i q (by simpa using hq); omega

/-- rows laid one after the other -/
theorem fill_rows {F : Nat → Prop} {t : Ty} {m : Nat} : ∀ {is : List Nat} {us : List Value} {xs : List t.den} {j : Nat} {cells : Array Value}, isRange is j = true → is.length = us.length → xs.length = us.length → cells.size = m * t.size → j + us.length ≤ m →
    (∀ (i : Nat) (u : Value) (x : t.den), us[i]? = some u → xs[i]? = some x → Pu w F t x u.cells.toList) → ∀ (ys : List t.den), ys.length = j → Pu w F (.arr j t) ys (cells.toList.take (j * t.size)) →
    ∃ cells', Instr.fill (fun i => some (i * t.size, t.size)) cells (is.zip us) = some cells' ∧ cells'.size = m * t.size ∧ Pu w F (.arr (j + us.length) t) (ys ++ xs) (cells'.toList.take ((j + us.length) * t.size)) := by
  intro is
  induction is with
  | nil =>
    intro us xs j cells hr h1 h2 h3 h4 h5 ys h6 h7
    have : us = [] := List.eq_nil_of_length_eq_zero (by simpa using h1.symm)
    subst this
    have : xs = [] := List.eq_nil_of_length_eq_zero (by simpa using h2)
    subst this
    exact ⟨cells, by simp [Instr.fill], h3, by simpa using h7⟩
  | cons i is ih =>
    intro us xs j cells hr h1 h2 h3 h4 h5 ys h6 h7
    cases us with
    | nil => simp at h1
    | cons u us =>
      cases xs with
      | nil => simp at h2
      | cons x xs =>
        simp only [isRange, Bool.and_eq_true] at hr
        have hi := Nat.eq_of_beq_eq_true hr.1
        subst hi
        have hp := h5 0 u x rfl rfl
        have hus : u.cells.size = t.size := by simpa using hp.len
        simp only [List.length_cons] at h4
        have hle := mul_succ_le (k := t.size) (show i < m by omega)
        simp only [List.zip_cons_cons]
        rw [fill_cons _ cells i u _ (off := i * t.size) (size := t.size) rfl hus (by omega)]
        have hsz : (splA cells (i * t.size) u.cells.toList).size = cells.size := splA_size (by simp; omega)
        have hnew : Pu w F (.arr (i + 1) t) (ys ++ [x]) ((splA cells (i * t.size) u.cells.toList).toList.take ((i + 1) * t.size)) := by
          have e1 : (splA cells (i * t.size) u.cells.toList).toList.take ((i + 1) * t.size) = cells.toList.take (i * t.size) ++ u.cells.toList := by
            unfold splA spl
            rw [List.toList_toArray, List.append_assoc, ← List.append_assoc, List.take_left']
            simp [Nat.add_mul, hus]
            omega
          rw [e1]
          refine pu_append h7 ⟨rfl, by simp [hus], fun q hq => ?_⟩
          have : q = 0 := by simp at hq; omega
          subst this
          simp only [Nat.zero_mul, List.drop_zero]
          rw [List.take_of_length_le (by simp [hus])]
          exact hp
        obtain ⟨cells', g1, g2, g3⟩ := ih (us := us) (xs := xs) (j := i + 1) hr.2 (by simpa using h1) (by simpa using h2) (hsz.trans h3) (by omega) (fun q u' x' hu' hx' => h5 (q + 1) u' x' (by simpa using hu') (by simpa using hx')) (ys ++ [x]) (by simp [h6]) hnew
        refine ⟨cells', g1, g2, ?_⟩
        rw [List.append_assoc] at g3
        have e : i + 1 + us.length = i + (u :: us).length := by simp; omega
        rw [← e]
        exact g3

theorem give_bsl (hD : DOk P C) (h : Rep W0 F0 ρ s a w) {o : Oper} {T len d : Nat} {parts : Array (Nat × Operand)} (hop : o.op = .buildSlice T len parts) {v : AV}
    (ho : (rdXs (parts.toList.map (·.2)) fun vs => bslPg C T len (parts.toList.map (·.1)) vs d).Out s v s') : Gives P W0 F0 o a w v s' := by
  obtain ⟨vs, hvs, ho1⟩ := out_rdXs h ho
  clear ho
  have ho := ho1
  clear ho1
  unfold bslPg at ho
  have hzip : (parts.map fun (x : Nat × Operand) => (x.1, a.eval x.2)).toList = (parts.toList.map (·.1)).zip ((parts.toList.map (·.2)).map a.eval) := by
    rw [Array.toList_map, List.map_map]
    induction parts.toList with
    | nil => rfl
    | cons x r ih => simp [ih]
  split at ho
  · rename_i e hk
    split at ho
    · rename_i t ht
      obtain ⟨hb, ho⟩ := out_bif ho
      simp only [Bool.and_eq_true] at hb
      obtain ⟨⟨b1, b2⟩, b3⟩ := hb
      have b2 := Nat.eq_of_beq_eq_true b2
      obtain ⟨xs, hlit, hn, rfl, rfl⟩ := out_ofP ho
      obtain ⟨dd, hdu, hkd⟩ := und hD hk (by simp)
      rw [kindB_sl hkd] at hdu
      rcases hD e with he | tke
      · rw [he] at ht; cases ht
      obtain ⟨tke⟩ := tke
      obtain ⟨hts, hzs, hpz⟩ := tke.ty t ht
      have hsz : tke.i.size = t.size := by rw [tke.size, hts]
      have hz : tke.z.cells.size = t.size := by rw [hzs, hts]
      obtain ⟨hl1, hl2⟩ := litOf_pu hvs hlit
      have hlen : ((parts.toList.map (·.2)).map a.eval).length = len := by rw [← b2]; simp
      obtain ⟨cells', g1, g2, g3⟩ := fill_rows (w := w) (F := Env.F ⟨w, s.o, ρ⟩) (t := t) (m := len) (cells := (Array.range (len * t.size)).map (fun i => (if len * t.size = 0 then #[] else tke.z.cells)[i % (if len * t.size = 0 then #[] else tke.z.cells).size]!)) b1 (by simp) hl1 (by simp) (by rw [hlen]; omega) hl2 [] rfl
        ⟨by simp, by simp, fun i hi => by omega⟩
      rw [hlen, Nat.zero_add] at g3
      simp only [List.nil_append] at g3
      have hxl : xs.length = len := by rw [hl1, hlen]
      obtain ⟨ρ', h3, h4⟩ := h.newFull (t := t) (xs := xs) (cs := cells'.toList.take (len * t.size)) (cells := cells') (T := e) (fr := (0, 0)) (n := len) (cap := len) hn (by rw [hxl]; exact g3) (by simp; omega)
        (by simp only [seg, List.drop_zero, List.length_take]; rw [List.take_eq_take_iff]; omega) (fun i _ _ => by simp) hxl (Nat.le_refl _) (by omega)
      refine ⟨_, _, ρ', .inl ?_, h3, h4⟩
      have hb3 : ¬ len * t.size > 16777216 := by
        have : Nat.blt (len * (C.D e).size) 16777217 = true := b3
        simp at this
        rw [hts]; omega
      rw [← hzip] at g1
      have hrun : (Instr.buildSlice T len (parts.map fun (x : Nat × Operand) => (x.1, a.eval x.2))).run P w = .ok (.slice (some ⟨w.heap.size, 0, none⟩) len len) (w.alloc (.cells cells' e)) := by
        unfold Instr.buildSlice
        simp only [Sem.run_bind, run_underlying hdu, Result.andThen_ok, run_sizeOf tke.hi, hsz]
        rw [if_neg (by simpa using hb3)]
        by_cases h0 : len * t.size = 0
        · simp only [h0, if_true] at g1 ⊢
          simp at g1
          simp [newRow, g1]
        · simp only [h0, if_false] at g1 ⊢
          simp only [Array.toList_map] at g1
          simp [run_zeroValue tke.hi tke.hz, newRow, g1]
      simp only [execOp, hop]
      simp [hrun]
    · exact ho.elim
  · exact ho.elim

theorem give_mnmx (h : Rep W0 F0 ρ s a w) {o : Oper} {c : Call} {xs : List Operand} (hop : o.op = .call c) (hargs : c.args.toList = xs) {vs : List AV} (hv : Vals ⟨w, s.o, ρ⟩ vs (xs.map a.eval)) {v : AV} :
    (c.callee = .builtin .max → (mnmxPg mx vs).Out s v s' → Gives P W0 F0 o a w v s') ∧ (c.callee = .builtin .min → (mnmxPg mn vs).Out s v s' → Gives P W0 F0 o a w v s') := by
  have key : ∀ (b : Builtin) (f : Int → Int → Int) (f2 : Value → Value → Sem Value), (∀ k x k' y, f2 (.int k x) (.int k' y) = pure (.int k (f x y))) → c.callee = .builtin b →
      (∀ x r, c.args.map a.eval = (x :: r).toArray → ∀ u, (r.foldlM f2 x).run P w = .ok u w → (execOp a.eval o).run P w = .ok (.value u) w) → (mnmxPg f vs).Out s v s' → Gives P W0 F0 o a w v s' := by
    intro b f f2 hf hcal hex ho
    have hmap : c.args.map a.eval = (xs.map a.eval).toArray := by
      rw [← hargs]; apply Array.ext'; simp
    unfold mnmxPg at ho
    split at ho
    · rename_i k x k' y
      obtain ⟨rfl, rfl⟩ := ho
      obtain ⟨u1, r1, e1, v1, u2, r2, e2, v2, e3⟩ := hv
      rw [e2, e3] at e1
      rw [e1, v1.int_eq, v2.int_eq] at hmap
      exact ⟨_, w, ρ, .inl (hex _ _ hmap _ (by simp [List.foldlM, hf])), h, Val.mkInt _ _ _⟩
    · rename_i k x k' y k'' z
      obtain ⟨rfl, rfl⟩ := ho
      obtain ⟨u1, r1, e1, v1, u2, r2, e2, v2, u3, r3, e3, v3, e4⟩ := hv
      rw [e2, e3, e4] at e1
      rw [e1, v1.int_eq, v2.int_eq, v3.int_eq] at hmap
      exact ⟨_, w, ρ, .inl (hex _ _ hmap _ (by simp [List.foldlM, hf])), h, Val.mkInt _ _ _⟩
    · exact ho.elim
  refine ⟨fun hcal => key .max mx Builtin.max2 (fun k x k' y => rfl) hcal (fun x r hm u hu => ?_), fun hcal => key .min mn Builtin.min2 (fun k x k' y => rfl) hcal (fun x r hm u hu => ?_)⟩
  · simp [execOp, hop, resolve, hcal, invoke, builtin, Builtin.max_, hm, hu]
  · simp [execOp, hop, resolve, hcal, invoke, builtin, Builtin.min_, hm, hu]
end
end Go.Ev
