/- Rows: what is read out of a slice, what is appended, copied and cleared. -/
import Derived.Test.YtbmdoalneeeonabEvA
import Derived.ChangeKeysEq
set_option linter.unusedVariables false
set_option linter.unusedSimpArgs false
namespace Go.Ev
open Go
section
variable {P : Program} {C : Cx} {W0 : World} {F0 : Base} {ρ : Nat → Option Loc} {s s' : St} {a : Act} {w : World}

/-- a plain value without slices: wherever -/
theorem Pu.anywhere {w w' : World} {F F' : Nat → Prop} : ∀ {t : Ty} {x : t.den} {cs : List Value}, t.noSl = true → Pu w F t x cs → Pu w' F' t x cs := by
  intro t
  induction t with
  | pair a b iha ihb =>
    intro x cs hn h
    simp only [Ty.noSl, Bool.and_eq_true] at hn
    exact ⟨iha hn.1 h.1, ihb hn.2 h.2⟩
  | arr n t ih => intro x cs hn h; exact ⟨h.1, h.2.1, fun i hi => ih hn (h.2.2 i hi)⟩
  | sl t ih => intro x cs hn h; simp [Ty.noSl] at hn
  | _ => intro x cs hn h; exact h

theorem pu_append {F : Nat → Prop} {t : Ty} {n m : Nat} {xs ys : List t.den} {cs ds : List Value} (h : Pu w F (.arr n t) xs cs) (h' : Pu w F (.arr m t) ys ds) : Pu w F (.arr (n + m) t) (xs ++ ys) (cs ++ ds) := by
  obtain ⟨h1, h2, h3⟩ := h
  obtain ⟨k1, k2, k3⟩ := h'
  refine ⟨by simp; omega, by rw [List.length_append, Nat.add_mul]; omega, fun i hi => ?_⟩
  by_cases e : i < n
  · have hle := mul_succ_le (k := t.size) e
    have e1 : (xs ++ ys).getD i t.dflt = xs.getD i t.dflt := by simp [List.getD, List.getElem?_append, h1, e]
    rw [e1, List.drop_append_of_le_length (by omega), List.take_append_of_le_length (by rw [List.length_drop]; omega)]
    exact h3 i e
  · have e1 : (xs ++ ys).getD i t.dflt = ys.getD (i - n) t.dflt := by simp [List.getD, List.getElem?_append, h1, e]
    have e2 : i * t.size = cs.length + (i - n) * t.size := by
      rw [h2, ← Nat.add_mul]; congr 1; omega
    rw [e1, e2, List.drop_length_add_append]
    exact k3 (i - n) (by omega)

/-- the cells of a slice that is read -/
theorem sl_cells {F : Nat → Prop} {t : Ty} {ys : List t.den} {u : Value} (hp : Pu w F (.sl t) ys [u]) : ∃ ad cap, u = .slice ad ys.length cap ∧ ys.length ≤ cap ∧
    ∀ m, m ≤ ys.length → ∃ cs : Array Value, (Builtin.firstCells t.size m u).run P w = .ok cs w ∧ Pu w F (.arr m t) (ys.take m) cs.toList := by
  obtain ⟨ad, cap, hc, hcap, hp⟩ := hp
  simp only [List.cons.injEq, and_true] at hc
  subst hc
  refine ⟨ad, cap, rfl, hcap, fun m hm => ?_⟩
  by_cases hm0 : m = 0
  · subst hm0
    have hz : Pu w F (.arr 0 t) (ys.take 0) [] := ⟨by simp, by simp, fun i hi => by omega⟩
    cases ad with
    | none => exact ⟨#[], by simp [Builtin.firstCells], hz⟩
    | some x => exact ⟨#[], by simp [Builtin.firstCells, loadCells, loadCellsFrom], hz⟩
  · rcases hp with hp | ⟨b, off, cells, T, fr, rfl, hF, hb, hs, hel⟩
    · subst hp; simp at hm; omega
    · have hle : m * t.size ≤ ys.length * t.size := Nat.mul_le_mul_right _ hm
      refine ⟨_, by simp [Builtin.firstCells, run_loadCells_seg hb (show off + m * t.size ≤ cells.size by omega)]; rfl, ?_⟩
      refine ⟨by simp; omega, by simpa using seg_length (show off + m * t.size ≤ cells.size by omega), fun i hi => ?_⟩
      have hle2 := mul_succ_le (k := t.size) hi
      have e1 : (ys.take m).getD i t.dflt = ys.getD i t.dflt := by simp [List.getD, List.getElem?_take, hi]
      rw [e1]
      have := hel i (by omega)
      rwa [seg_sub (n := m * t.size) (by omega)] at this

/-- rows of zero values -/
theorem zero_row {t : Ty} {z : Array Value} (hz : z.size = t.size) (hp : ∀ w F, Pu w F t t.dflt z.toList) (n m : Nat) (hm : n ≤ m) {F : Nat → Prop} :
    Pu w F (.arr n t) (List.replicate n t.dflt) (((Array.range (m * z.size)).map fun i => z[i % z.size]!).toList.take (n * t.size)) := by
  have hle : n * t.size ≤ m * t.size := Nat.mul_le_mul_right _ hm
  refine ⟨by simp, by simp [hz, Nat.min_eq_left hm], fun i hi => ?_⟩
  have hle2 := mul_succ_le (k := t.size) hi
  have e1 : (List.replicate n t.dflt).getD i t.dflt = t.dflt := by simp [List.getD, hi]
  rw [e1]
  have e2 : ((((Array.range (m * z.size)).map fun i => z[i % z.size]!).toList.take (n * t.size)).drop (i * t.size)).take t.size = z.toList := by
    apply List.ext_getElem?
    intro j
    simp only [List.getElem?_take, List.getElem?_drop]
    by_cases hj : j < t.size
    · rw [if_pos hj, if_pos (by omega)]
      have h1 : i * t.size + j < m * z.size := by rw [hz]; omega
      have h2 : (i * t.size + j) % z.size = j := by
        rw [hz, Nat.add_comm, Nat.add_mul_mod_self_right, Nat.mod_eq_of_lt hj]
      have h3 : i * t.size + j < m * t.size := by omega
      have h2' : (i * t.size + j) % t.size = j := by rw [Nat.add_comm, Nat.add_mul_mod_self_right, Nat.mod_eq_of_lt hj]
      simp [hz, hj]
      exact ⟨i * t.size + j, by rw [List.getElem?_range h3], by rw [h2']; simp [hz, hj]⟩
    · rw [if_neg hj]
      symm
      rw [List.getElem?_eq_none]
      simp; omega
  rw [e2]; exact hp w F

theorem splice_getD {t : Ty} {xs zs : List t.den} {off : Int} (h0 : 0 ≤ off) (h : off + zs.length ≤ xs.length) (i : Nat) :
    (splice xs off zs).getD i t.dflt = if i < off.toNat then xs.getD i t.dflt else if i < off.toNat + zs.length then zs.getD (i - off.toNat) t.dflt else xs.getD i t.dflt := by
  unfold splice
  have hk : off.toNat + zs.length ≤ xs.length := by omega
  simp only [List.getD]
  rw [List.append_assoc, List.getElem?_append, List.length_take, Nat.min_eq_left (by omega)]
  by_cases c1 : i < off.toNat
  · rw [if_pos c1, if_pos c1, List.getElem?_take, if_pos c1]
  · rw [if_neg c1, if_neg c1, List.getElem?_append]
    by_cases c2 : i < off.toNat + zs.length
    · rw [if_pos (by omega), if_pos c2]
    · rw [if_neg (by omega), if_neg c2, List.getElem?_drop]
      congr 2; omega
theorem splice_length {α : Type} {xs zs : List α} {off : Int} (h0 : 0 ≤ off) (h : off + zs.length ≤ xs.length) : (splice xs off zs).length = xs.length := by
  simp [splice]; omega

theorem pu_splice {F : Nat → Prop} {t : Ty} {n : Nat} {xs zs : List t.den} {cs vs : List Value} (h : Pu w F (.arr n t) xs cs) (hz : Pu w F (.arr zs.length t) zs vs) {off : Int} (h0 : 0 ≤ off) (hf : off + zs.length ≤ n) :
    Pu w F (.arr n t) (splice xs off zs) (spl cs (off.toNat * t.size) vs) := by
  obtain ⟨h1, h2, h3⟩ := h
  obtain ⟨k1, k2, k3⟩ := hz
  have hfit : off.toNat * t.size + vs.length ≤ cs.length := by
    have : (off.toNat + zs.length) * t.size ≤ n * t.size := Nat.mul_le_mul_right _ (by omega)
    rw [Nat.add_mul] at this; omega
  refine ⟨by rw [splice_length h0 (by rw [h1]; exact hf)]; exact h1, by rw [spl_length hfit]; exact h2, fun i hi => ?_⟩
  have hle := mul_succ_le (k := t.size) hi
  rw [splice_getD h0 (by rw [h1]; exact hf)]
  by_cases c1 : i < off.toNat
  · rw [if_pos c1, seg_spl_other hfit (.inl (mul_succ_le c1))]
    exact h3 i hi
  · rw [if_neg c1]
    by_cases c2 : i < off.toNat + zs.length
    · rw [if_pos c2]
      have hj : i - off.toNat < zs.length := by omega
      have hle3 := mul_succ_le (k := t.size) hj
      have e : i * t.size = off.toNat * t.size + (i - off.toNat) * t.size := by rw [← Nat.add_mul]; congr 1; omega
      have := k3 _ hj
      have e2 : ((spl cs (off.toNat * t.size) vs).drop (i * t.size)).take t.size = (vs.drop ((i - off.toNat) * t.size)).take t.size := by
        apply List.ext_getElem?
        intro j
        simp only [List.getElem?_take, List.getElem?_drop, spl_get hfit]
        by_cases hjj : j < t.size
        · rw [if_pos hjj, if_neg (by omega), if_pos (by omega), if_pos hjj]
          congr 1; omega
        · rw [if_neg hjj, if_neg hjj]
      rw [e2]; exact this
    · rw [if_neg c2]
      have e : (off.toNat + zs.length) * t.size ≤ i * t.size := Nat.mul_le_mul_right _ (by omega)
      rw [Nat.add_mul] at e
      rw [seg_spl_other hfit (.inr (by omega))]
      exact h3 i hi

theorem spl_spl {cs vs : List Value} {k n j : Nat} (hn : k + n ≤ cs.length) (hj : j + vs.length ≤ n) : spl cs k (spl ((cs.drop k).take n) j vs) = spl cs (k + j) vs := by
  have hl : ((cs.drop k).take n).length = n := by simp; omega
  have hl2 : (spl ((cs.drop k).take n) j vs).length = n := by rw [spl_length (by omega)]; exact hl
  apply List.ext_getElem?
  intro i
  rw [spl_get (cs := cs) (k := k) (by omega) i, spl_get (cs := cs) (vs := vs) (k := k + j) (by omega) i, hl2]
  by_cases c1 : i < k
  · rw [if_pos c1, if_pos (by omega)]
  · rw [if_neg c1]
    by_cases c2 : i < k + n
    · rw [if_pos c2, spl_get (by omega) (i - k)]
      simp only [List.getElem?_take, List.getElem?_drop]
      by_cases c3 : i < k + j
      · rw [if_pos (by omega), if_pos c3, if_pos (by omega)]; congr 1; omega
      · rw [if_neg (by omega), if_neg c3]
        by_cases c4 : i < k + j + vs.length
        · rw [if_pos (by omega), if_pos c4]; congr 1; omega
        · rw [if_neg (by omega), if_neg c4, if_pos (by omega)]; congr 1; omega
    · rw [if_neg c2, if_neg (by omega), if_neg (by omega)]
end
end Go.Ev

/- Conversions; make, append, copy, clear. -/
set_option linter.unusedVariables false
set_option linter.unusedSimpArgs false
namespace Go.Ev
open Go
section
variable {P : Program} {C : Cx} {W0 : World} {F0 : Base} {ρ : Nat → Option Loc} {s s' : St} {a : Act} {w : World}

theorem strOf_foldl (ns : List Int) : ns.foldl (fun r n => r.push (UInt8.ofNat n.toNat)) ByteArray.empty = strOf ns := by
  have key : ∀ (ns : List Int) (b : ByteArray), ns.foldl (fun r n => r.push (UInt8.ofNat n.toNat)) b = ⟨b.data ++ (ns.map fun n => UInt8.ofNat n.toNat).toArray⟩ := by
    intro ns
    induction ns with
    | nil => intro b; simp
    | cons n ns ih =>
      intro b
      simp only [List.foldl_cons, ih]
      simp [ByteArray.push]
  rw [key]
  simp [strOf, ByteArray.empty, ByteArray.emptyWithCapacity]
  rfl

theorem pu_ints {F : Nat → Prop} {k : IntKind} {n : Nat} {xs : List Int} {cs : List Value} (h : Pu w F (.arr n (.int k)) xs cs) : cs = xs.map (Value.int k) := by
  obtain ⟨h1, h2, h3⟩ := h
  simp only [Ty.size, Nat.mul_one] at h2 h3
  apply List.ext_getElem?
  intro i
  by_cases hi : i < n
  · have := h3 i hi
    have hx : xs[i]? = some (xs.getD i 0) := by
      have hl : i < List.length xs := by rw [h1]; exact hi
      simp [List.getD, List.getElem?_eq_getElem hl]
    have h0 : ((cs.drop i).take 1)[0]? = some (.int k (xs.getD i 0)) := by
      have e : (cs.drop i).take 1 = [Value.int k (xs.getD i 0)] := this
      rw [e]; rfl
    simp only [List.getElem?_take, Nat.zero_lt_one, if_true, List.getElem?_drop, Nat.add_zero] at h0
    rw [h0, List.getElem?_map, hx]; rfl
  · rw [List.getElem?_eq_none (by omega), List.getElem?_eq_none (by simp; omega)]

theorem give_conv (hD : DOk P C) (h : Rep W0 F0 ρ s a w) {o : Oper} {src dst d : Nat} {x : Operand} (hop : o.op = .convert src dst x) {v : AV} (ho : (rdX x fun a => convPg C src dst a d).Out s v s') : Gives P W0 F0 o a w v s' := by
  obtain ⟨av, h1, ho1⟩ := out_rdX h ho
  clear ho
  obtain ⟨hok, ho⟩ := out_bif ho1
  clear ho1
  obtain ⟨tks⟩ := tok_of_kind hD (T := src) (fun e => by rw [e] at hok; simp [TK.ok] at hok)
  split at ho
  · rename_i ki n
    have hx := h1.int_eq
    split at ho
    · rename_i k hk
      obtain ⟨rfl, rfl⟩ := ho
      obtain ⟨dd, hdu, hkd⟩ := und hD hk (by simp)
      rw [kindB_int hkd] at hdu
      exact ⟨_, w, ρ, .inl (by simp [execOp, hop, hx, convert, run_underlying tks.hd, run_underlying hdu, Conv.intToInt]), h, Val.mkInt _ _ _⟩
    · rename_i hk
      obtain ⟨rfl, rfl⟩ := ho
      obtain ⟨dd, hdu, hkd⟩ := und hD hk (by simp)
      rw [kindB_str hkd] at hdu
      exact ⟨_, w, ρ, .inl (by simp [execOp, hop, hx, convert, run_underlying tks.hd, run_underlying hdu, Conv.intToString]), h, Val.mkStr _ _⟩
    · exact ho.elim
  · rename_i b
    have hx := h1.str_eq
    split at ho
    · rename_i hk
      obtain ⟨rfl, rfl⟩ := ho
      obtain ⟨dd, hdu, hkd⟩ := und hD hk (by simp)
      rw [kindB_str hkd] at hdu
      exact ⟨_, w, ρ, .inl (by simp [execOp, hop, hx, convert, run_underlying tks.hd, run_underlying hdu]), h, Val.mkStr _ _⟩
    · rename_i e hk
      split at ho
      · rename_i hke
        obtain ⟨hsz, hn, rfl, rfl⟩ := ho
        obtain ⟨dd, hdu, hkd⟩ := und hD hk (by simp)
        rw [kindB_sl hkd] at hdu
        obtain ⟨de, hdue, hkde⟩ := und hD hke (by simp)
        rw [kindB_int hkde] at hdue
        obtain ⟨cap, hcap, hr⟩ := run_stringToBytes (P := P) (w := w) (e := e) b
        have hb := bytes_pu b w.drew (Env.F ⟨w.drew, s.o, ρ⟩)
        have hbs : (bytesOf b).length = b.size := by simp [bytesOf]
        obtain ⟨ρ', hrep, hval⟩ := h.drew.newFull (t := .int .u8) (xs := bytesOf b) (cs := b.data.toList.map fun x => Value.int .u8 x.toNat) (T := e) (fr := (cap, cap + 1)) (n := b.size) (cap := cap) hn hb (cells := (b.data.map fun x => Value.int .u8 x.toNat) ++ Array.replicate (cap - b.size) (.int .u8 0))
          (by simp) (by simp [seg]) (fun i _ hi => by
            have : b.data.size = b.size := rfl
            simp at hi; simp; omega) hbs hcap (by
            have : b.data.size = b.size := rfl
            simp [Ty.size]; omega)
        refine ⟨_, _, ρ', .inl ?_, hrep, hval⟩
        simp [execOp, hop, hx, convert, run_underlying tks.hd, run_underlying hdu, run_underlying hdue, hr]
      · exact ho.elim
    · exact ho.elim
  · split at ho
    · rename_i e hk
      split at ho
      · rename_i hk2
        split at ho
        · rename_i hke
          have hav : av.sh = .leaf ∨ True := .inr trivial
          have hsh : av.sh ≠ .bad := by
            cases av <;> simp_all [AV.sh, exP, ofP, ofAV, Pg.Out]
          have hbk : ∀ t xs, av ≠ .bk t xs := by
            rintro t xs rfl
            simp [exP, ofP, ofAV, Pg.Out] at ho
          obtain ⟨hce, _⟩ := h1.cells hsh hbk
          obtain ⟨ys, l, ho, hshp, hp⟩ := exP_out h hce ho
          obtain ⟨rfl, rfl⟩ := ho
          have hp0 := hp (fun _ => False) (fun b hb => hb.elim)
          obtain ⟨ad, cap, hc, hcap, hp1⟩ := hp0
          have hu : a.eval x = .slice ad ys.length cap := by
            have hc' := h1.ce hshp
            have hl := hce.len
            cases hax : a.eval x with
            | agg cs =>
              exfalso
              rw [hax] at hc'
              have := ce_one hc' _ (List.mem_singleton.2 rfl)
              simp [Value.oneCell'] at this
            | _ => rw [hax] at hc; simp [Value.cells] at hc <;> simp [hc]
          obtain ⟨dd, hdu, hkd⟩ := und hD hk2 (by simp)
          rw [kindB_str hkd] at hdu
          obtain ⟨ds, hdus, hkds⟩ := und hD hk (by simp)
          rw [kindB_sl hkds] at hdus
          obtain ⟨de, hdue, hkde⟩ := und hD hke (by simp)
          rw [kindB_int hkde] at hdue
          refine ⟨.string (strOf ys), w, ρ, .inl ?_, h, Val.mkStr _ _⟩
          have key : (Conv.bytesToString (.slice ad ys.length cap)).run P w = .ok (.string (strOf ys)) w := by
            have hpp : Pu w (fun _ => False) (.sl (.int .u8)) ys [.slice ad ys.length cap] := ⟨ad, cap, rfl, hcap, hp1⟩
            obtain ⟨ad', cap', e1, _, hf⟩ := sl_cells (P := P) hpp
            simp only [Value.slice.injEq] at e1
            obtain ⟨rfl, _, rfl⟩ := e1
            obtain ⟨cs, h2, h3⟩ := hf ys.length (Nat.le_refl _)
            have h3 := pu_ints h3
            rw [List.take_length] at h3
            cases ad with
            | none =>
              rcases hp1 with hp1 | ⟨b, off, cells, T, fr, e, _⟩
              · subst hp1; simp [Conv.bytesToString, strOf, ByteArray.empty, ByteArray.emptyWithCapacity]; rfl
              · cases e
            | some adr =>
              have hcs : cs = (ys.map (Value.int .u8)).toArray := by rw [← h3]
              simp only [Builtin.firstCells, Ty.size, Nat.mul_one] at h2
              rw [hcs] at h2
              rw [run_bytesToString w adr _ cap ys h2, strOf_foldl]
          simp [execOp, hop, hu, convert, run_underlying hdus, run_underlying hdu, run_underlying hdue, key]
        · exact ho.elim
      · exact ho.elim
    · exact ho.elim

theorem fits_le {n m b : Nat} (h : fits n b) (hm : m ≤ n) : m * b ≤ 140737488355328 := Nat.le_trans (Nat.mul_le_mul_right _ hm) h

theorem give_make (hD : DOk P C) (h : Rep W0 F0 ρ s a w) {o : Oper} {T d : Nat} {x y : Operand} (hop : o.op = .makeSlice T x y) {v : AV}
    (ho : (rdX x fun a => rdX y fun b => makePg C T a b d).Out s v s') : Gives P W0 F0 o a w v s' := by
  obtain ⟨av, h1, ho1⟩ := out_rdX h ho
  clear ho
  obtain ⟨bv, h2, ho⟩ := out_rdX h ho1
  clear ho1
  unfold makePg at ho
  split at ho
  · rename_i kn n km m
    split at ho
    · rename_i e hk
      split at ho
      · rename_i t ht
        rcases out_if ho with ⟨_, ho⟩ | ⟨hbz, ho⟩
        · exact ho.elim
        obtain ⟨b0, b1, b2, hn, rfl, rfl⟩ := ho
        obtain ⟨dd, hdu, hkd⟩ := und hD hk (by simp)
        rw [kindB_sl hkd] at hdu
        rcases hD e with he | tke
        · rw [he] at ht; cases ht
        obtain ⟨tke⟩ := tke
        obtain ⟨hts, hzs, hpz⟩ := tke.ty t ht
        have hx := h1.int_eq
        have hy := h2.int_eq
        have hbytes : tke.i.bytes = (C.D e).bytes := tke.bytes
        have hmb : m.toNat ≤ 140737488355328 := by
          have h' : m.toNat * (C.D e).bytes ≤ 140737488355328 := b2
          have : 1 ≤ (C.D e).bytes := by omega
          have := Nat.mul_le_mul_left m.toNat this
          omega
        have wl : IntKind.i64.wrap n = n := IntWalk.i64_in _ (by omega)
        have wm : IntKind.i64.wrap m = m := IntWalk.i64_in _ (by omega)
        have tl : ∀ q : Int, 0 ≤ q → q ≤ m → (decide (q < 0) || decide ((tke.i.bytes : Int) * q > 2 ^ 48)) = false := by
          intro q hq hqm
          simp only [Bool.or_eq_false_iff, decide_eq_false_iff_not]
          refine ⟨by omega, ?_⟩
          have h' : q.toNat * (C.D e).bytes ≤ 140737488355328 := fits_le b2 (by omega)
          rw [hbytes]
          have e1 : ((C.D e).bytes : Int) * q = ((q.toNat * (C.D e).bytes : Nat) : Int) := by
            rw [Int.natCast_mul, Int.mul_comm]; congr 1; omega
          rw [e1]; omega
        have hzz : tke.z.cells.size = t.size := by rw [hzs, hts]
        have hsz' : tke.i.size = t.size := by rw [tke.size, hts]
        obtain ⟨ρ', hrep, hval⟩ := h.newFull (T := e) (fr := (0, 0)) (n := n.toNat) (cap := m.toNat) (t := t) (xs := List.replicate n.toNat t.dflt) (cells := (Array.range (m.toNat * tke.z.cells.size)).map fun i => tke.z.cells[i % tke.z.cells.size]!)
          hn (cs := (((Array.range (m.toNat * tke.z.cells.size)).map fun i => tke.z.cells[i % tke.z.cells.size]!).toList.take (n.toNat * t.size)))
          (by rw [List.length_replicate]; exact zero_row hzz hpz n.toNat m.toNat (by omega)) (by simp only [List.length_take, Array.length_toList]; omega) (by simp only [seg, List.drop_zero, List.length_take]; rw [List.take_eq_take_iff]; omega) (fun i _ _ => by simp) (by simp) (by omega) (by simp [hzz])
        refine ⟨_, _, ρ', .inl ?_, hrep, hval⟩
        simp only [execOp, hop, hx, hy, Instr.makeSlice, Sem.run_bind, run_underlying hdu, Result.andThen_ok, asInt, asIntOf, Sem.run_pure, run_typeInfo' tke.hi, wl, wm]
        have t1 := tl m (by omega) (Int.le_refl _)
        have t2 := tl n b0 b1
        simp only [t1, show decide (n < 0) = false by simp; omega, show decide (n > m) = false by simp; omega, Bool.or_self, Bool.false_eq_true, if_false, Sem.run_pure, Sem.run_bind, Result.andThen_ok, run_askRoom, run_sizeOf tke.hi, hsz']
        by_cases h0 : m.toNat * t.size = 0
        · simp [h0, hzz, newRow]
          congr 2
          apply Array.ext <;> simp
        · simp [h0, hzz, newRow, run_zeroValue tke.hi tke.hz]
      · exact ho.elim
    · exact ho.elim
  · exact ho.elim

theorem run_append_in {T ty e : TypeId} (hd : P.underlying T = some (.slice e)) {i : TypeInfo} (hi : P.info? e = some i) {ad : Option Addr} {n cap m cap2 : Nat} {ad2 : Option Addr} {new : Array Value}
    (hnew : (Builtin.firstCells i.size m (.slice ad2 m cap2)).run P w = .ok new w) (hle : n + m ≤ cap) {w' : World} (hst : (∀ x, ad = some x → (storeCells (x.add (n * i.size)) new.toList).run P w = .ok () w') ∧ (ad = none → w' = w)) :
    (Builtin.append_ #[T, T] ty #[.slice ad n cap, .slice ad2 m cap2]).run P w = .ok (.slice ad (n + m) cap) w' := by
  cases ad with
  | none =>
    have := hst.2 rfl
    subst this
    simp [Builtin.append_, run_underlying hd, run_sizeOf hi, Builtin.lenOf, hle, hnew]
  | some x => simp [Builtin.append_, run_underlying hd, run_sizeOf hi, Builtin.lenOf, hle, hnew, hst.1 x rfl]

theorem run_append_new {T ty e : TypeId} (hd : P.underlying T = some (.slice e)) {i : TypeInfo} (hi : P.info? e = some i) {z : Value} (hz : i.zero = some z) {ad : Option Addr} {n cap m cap2 : Nat} {ad2 : Option Addr} {old new : Array Value}
    (hfit : (n + m) * i.bytes ≤ 140737488355328) (h63 : n + m ≤ 9223372036854775807) (hlt : cap < n + m) (hold : (Builtin.firstCells i.size n (.slice ad n cap)).run P w.drew = .ok old w.drew) (hnew : (Builtin.firstCells i.size m (.slice ad2 m cap2)).run P w.drew = .ok new w.drew) :
    ∃ nc, n + m ≤ nc ∧ (Builtin.append_ #[T, T] ty #[.slice ad n cap, .slice ad2 m cap2]).run P w = .ok (.slice (some ⟨w.heap.size, 0, none⟩) (n + m) nc) (w.drew.alloc (.cells (old ++ new ++ Builtin.zeroCells z.cells (nc - (n + m))) e)) := by
  have hcap : n + m ≤ (Question.appendCap (n + m) cap e).cut (w.tape w.drawn (.appendCap (n + m) cap e)) := by simp [Question.cut]
  refine ⟨_, hcap, ?_⟩
  have hg := growslice_fits (need := n + m) (old := cap) (bytes := i.bytes) hlt hfit
  have hg' : ¬ 281474976710656 < Builtin.nextslicecap (n + m) cap * i.bytes := by omega
  have hle : ¬ n + m ≤ cap := by omega
  have h64 : ¬ (9223372036854775807 : Int) < (n : Int) + (m : Int) := by omega
  simp [Builtin.append_, run_underlying hd, run_sizeOf hi, run_typeInfo' hi, Builtin.lenOf, hle, hg', h64, run_zeroValue hi hz, newRow, Question.forced, hold, hnew]
end
end Go.Ev

/- append, copy, clear as operations. -/
set_option linter.unusedVariables false
set_option linter.unusedSimpArgs false
namespace Go.Ev
open Go
section
variable {P : Program} {C : Cx} {W0 : World} {F0 : Base} {ρ : Nat → Option Loc} {s s' : St} {a : Act} {w : World}

theorem Rep.appendIn (h : Rep W0 F0 ρ s a w) {q d : Nat} {t : Ty} {xs ys : List t.den} (hq : s.o q = some (.bk t xs)) (hd : s.o d = none) (ht : t.noSl = true) {l : Loc} {cells : Array Value} {T : TypeId} {fr : Nat × Nat} {cs vs : List Value} {cap : Nat}
    (hl : ρ q = some l) (hb : w.heap[l.b]? = some (.cells cells T fr)) (hcs : Pu w (Env.F ⟨w, s.o, ρ⟩) (.arr xs.length t) xs cs) (hseg : seg cells l.off cs.length = cs) (hu : Unfrozen fr l.off cells.size)
    (hvs : Pu w (fun _ => False) (.arr ys.length t) ys vs) (hcap : xs.length + ys.length ≤ cap) (hfit : l.off + cap * t.size ≤ cells.size) :
    ∃ ρ', Rep W0 F0 ρ' ((s.setO q .top).setO d (.bk t (xs ++ ys))) a (w.setRow l.b (splA cells (l.off + xs.length * t.size) vs)) ∧
      Val ⟨w.setRow l.b (splA cells (l.off + xs.length * t.size) vs), ((s.setO q .top).setO d (.bk t (xs ++ ys))).o, ρ'⟩ (.full d) (.slice (some ⟨l.b, l.off, none⟩) (xs.length + ys.length) cap) := by
  have hne : q ≠ d := fun e => by rw [e, hd] at hq; cases hq
  have hlen1 : cs.length = xs.length * t.size := hcs.2.1
  have hlen2 : vs.length = ys.length * t.size := hvs.2.1
  have hcap2 : (xs.length + ys.length) * t.size ≤ cap * t.size := Nat.mul_le_mul_right _ hcap
  rw [Nat.add_mul] at hcap2
  have hfit2 : l.off + xs.length * t.size + vs.length ≤ cells.size := by omega
  have hsz : (splA cells (l.off + xs.length * t.size) vs).size = cells.size := splA_size hfit2
  generalize hcells' : splA cells (l.off + xs.length * t.size) vs = cells' at hsz
  have ho : ∀ x, ((s.setO q .top).setO d (.bk t (xs ++ ys))).o x = if d = x then some (.bk t (xs ++ ys)) else if q = x then some .top else s.o x := by
    intro x; rw [St.setO_o, St.setO_o]
  have other : ∀ x c, ((s.setO q .top).setO d (.bk t (xs ++ ys))).o x = some c → c.sh ≠ .bad → (x = d ∧ c = .bk t (xs ++ ys)) ∨ (x ≠ d ∧ x ≠ q ∧ s.o x = some c) := by
    intro x c hx hc
    rw [ho] at hx
    by_cases e1 : d = x
    · rw [if_pos e1] at hx; exact .inl ⟨e1.symm, (Option.some.inj hx).symm⟩
    · rw [if_neg e1] at hx
      by_cases e2 : q = x
      · rw [if_pos e2] at hx; cases hx; simp [AV.sh] at hc
      · rw [if_neg e2] at hx; exact .inr ⟨Ne.symm e1, Ne.symm e2, hx⟩
  have hE : Ext ⟨w, s.o, ρ⟩ ⟨w.setRow l.b cells', ((s.setO q .top).setO d (.bk t (xs ++ ys))).o, upd ρ d (some l)⟩ := by
    refine ⟨fun b x hF hx => ?_, fun x c hx => ?_⟩
    · have hnb : b ≠ l.b := fun e => hF ⟨q, _, l, hq, by simp [AV.sh], hl, e.symm⟩
      refine ⟨by show (w.setRow l.b cells').heap[b]? = _; rw [setRow_other w l.b b cells' hnb]; exact hx, ?_⟩
      rintro ⟨y, c, k, hy, hc, hk, rfl⟩
      rcases other y c hy hc with ⟨rfl, rfl⟩ | ⟨e1, e2, e3⟩
      · simp only [upd, if_true, Option.some.injEq] at hk
        exact hnb (by rw [← hk])
      · simp only [upd, if_neg e1] at hk
        exact hF ⟨y, c, k, e3, hc, hk, rfl⟩
    · have hx' : s.o x = some c := hx
      have e1 : d ≠ x := fun e => by subst e; rw [hd] at hx'; cases hx'
      by_cases e2 : q = x
      · exact ⟨.top, (ho x).trans (by rw [if_neg e1, if_pos e2]), .inl rfl⟩
      · refine ⟨c, (ho x).trans (by rw [if_neg e1, if_neg e2]; exact hx'), ?_⟩
        by_cases hb' : c.sh = .bad
        · exact .inl hb'
        · refine .inr ⟨hb', rfl, by simp [upd, Ne.symm e1], fun k cl T' fr' hk hkk => ?_⟩
          by_cases e : k.b = l.b
          · have hkk' : w.heap[k.b]? = some (.cells cl T' fr') := hkk
            rw [e, hb] at hkk'
            cases hkk'
            exact ⟨cells', fr, by show (w.setRow l.b cells').heap[k.b]? = _; rw [e]; exact setRow_heap w l.b cells cells' T fr hb, by omega⟩
          · exact ⟨cl, fr', by show (w.setRow l.b cells').heap[k.b]? = _; rw [setRow_other w l.b k.b cells' e]; exact hkk, Nat.le_refl _⟩
  have hnew : Pu (w.setRow l.b cells') (Env.F ⟨w.setRow l.b cells', ((s.setO q .top).setO d (.bk t (xs ++ ys))).o, upd ρ d (some l)⟩) (.arr (xs ++ ys).length t) (xs ++ ys) (cs ++ vs) := by
    have h1 := hcs.anywhere (w' := w) (F' := fun _ => False) (t := .arr xs.length t) ht
    have := pu_append h1 hvs
    rw [List.length_append]
    exact this.anywhere (t := .arr (xs.length + ys.length) t) ht
  have hseg' : seg cells' l.off (cs ++ vs).length = cs ++ vs := by
    rw [← hcells', List.length_append, ← hlen1, seg_splA_same (by omega) (by omega)]
    have e1 : (seg cells l.off (cs.length + vs.length)).take cs.length = cs := by
      unfold seg at hseg ⊢
      rw [List.take_take, Nat.min_eq_left (by omega)]
      exact hseg
    unfold spl
    rw [e1, List.drop_of_length_le (by rw [seg_length (by omega)]; exact Nat.le_refl _), List.append_nil]
  refine ⟨upd ρ d (some l), ⟨h.size, h.defers, fun i => hE.val (h.tm i), fun x c hx hc => ?_, ?_, ?_, ?_, fun p hp => hE.val (h.fx p hp)⟩, Val.leaf rfl ⟨_, rfl, _, _, _, rfl, hcap, .bk t (xs ++ ys), (ho d).trans (if_pos rfl), .inr ⟨t, by simp [AV.sh], .inr ⟨l, cells', T, fr, by simp [upd], rfl, setRow_heap w l.b cells cells' T fr hb, by omega⟩⟩⟩⟩
  · rcases other x c hx hc with ⟨rfl, rfl⟩ | ⟨e1, e2, e3⟩
    · exact .inl ⟨l, cells', T, fr, cs ++ vs, by simp [upd], setRow_heap w l.b cells cells' T fr hb, hnew, by rw [List.length_append]; omega, hseg', by rw [hsz]; exact hu⟩
    · rcases h.ob x c e3 hc with ⟨k, cl, T', fr', cs', g1, g2, g3, g4, g5, g6⟩ | g
      · have hnb : k.b ≠ l.b := fun e => e2 (h.inj x q c _ k l e3 hq hc (by simp [AV.sh]) g1 hl e)
        exact .inl ⟨k, cl, T', fr', cs', by simp [upd, e1]; exact g1, by show (w.setRow l.b cells').heap[k.b]? = _; rw [setRow_other w l.b k.b cells' hnb]; exact g2, hE.ce g3, g4, g5, g6⟩
      · exact .inr ⟨by simp [upd, e1]; exact g.1, g.2⟩
  · intro x x' c c' k k' hx hx' hc hc' hk hk' hbb
    rcases other x c hx hc with ⟨rfl, rfl⟩ | ⟨e1, e2, e3⟩ <;> rcases other x' c' hx' hc' with ⟨rfl, rfl⟩ | ⟨e1', e2', e3'⟩
    · rfl
    · exfalso
      simp only [upd, if_true, Option.some.injEq] at hk
      simp only [upd, if_neg e1'] at hk'
      subst hk
      exact e2' (h.inj x' q c' _ k' l e3' hq hc' (by simp [AV.sh]) hk' hl hbb.symm)
    · exfalso
      simp only [upd, if_neg e1] at hk
      simp only [upd, if_true, Option.some.injEq] at hk'
      subst hk'
      exact e2 (h.inj x q c _ k l e3 hq hc (by simp [AV.sh]) hk hl hbb)
    · simp only [upd, if_neg e1] at hk
      simp only [upd, if_neg e1'] at hk'
      exact h.inj x x' c c' k k' e3 e3' hc hc' hk hk' hbb
  · intro x c k hx hc hk
    rcases other x c hx hc with ⟨rfl, rfl⟩ | ⟨e1, e2, e3⟩
    · simp only [upd, if_true, Option.some.injEq] at hk
      subst hk
      exact h.own q _ l hq (by simp [AV.sh]) hl
    · simp only [upd, if_neg e1] at hk
      exact h.own x c k e3 hc hk
  · refine ⟨h.fr.os, h.fr.tape, h.fr.output, by simp; exact h.fr.size, fun b hb' hF => ?_, keep_setRow hb hsz.symm h.fr.keep⟩
    have hnb : b ≠ l.b := by
      rintro rfl
      rcases h.own q _ l hq (by simp [AV.sh]) hl with g | g
      · exact hF g
      · omega
    rw [setRow_other w l.b b cells' hnb]
    exact h.fr.block b hb' hF

theorem pu_win {F : Nat → Prop} {t : Ty} {m : Nat} {xs : List t.den} {cs : List Value} (hp : Pu w F (.arr m t) xs cs) {off len : Int} (h0 : 0 ≤ off) {n : Nat} (hn : (n : Int) = len) (hm : off + len ≤ m) :
    Pu w F (.arr n t) (win xs off len) ((cs.drop (off.toNat * t.size)).take (n * t.size)) := by
  have hlen := win_length xs (off := off) (len := len) h0 (by omega) (by rw [hp.1]; exact hm)
  have hle : off.toNat * t.size + n * t.size ≤ m * t.size := by rw [← Nat.add_mul]; exact Nat.mul_le_mul_right _ (by omega)
  refine ⟨by omega, by rw [List.length_take, List.length_drop, hp.2.1]; omega, fun i hi => ?_⟩
  rw [win_getD xs h0 (by omega)]
  have hi' : off.toNat + i < m := by omega
  have := hp.2.2 _ hi'
  have h2 := mul_succ_le (k := t.size) hi
  rw [drop_take_drop_take _ _ _ _ _ (by omega), ← Nat.add_mul]
  exact this

/-- a view of a whole row becomes a row of its own -/
theorem Rep.narrow (h : Rep W0 F0 ρ s a w) {q d : Nat} {t : Ty} {xs : List t.den} {off len : Int} {u : Value} (hv : ViewOf ⟨w, s.o, ρ⟩ q [] off len u) (hq : s.o q = some (.bk t xs)) (hd : s.o d = none) (ht : t.noSl = true) :
    ∃ ρ', Rep W0 F0 ρ' ((s.setO q .top).setO d (.bk t (win xs off len))) a w ∧ Val ⟨w, ((s.setO q .top).setO d (.bk t (win xs off len))).o, ρ'⟩ (.full d) u := by
  have hne : q ≠ d := fun e => by rw [e, hd] at hq; cases hq
  obtain ⟨n, ad, cap, hu, hn, hcap, h0, hm, hh, _⟩ := h.view hv hq rfl rfl (.inr ⟨rfl, rfl⟩)
  have hlen : (win xs off len).length = n := by have := win_length xs (off := off) (len := len) h0 (by omega) hm; omega
  rcases hh with hz | ⟨l, k, cells, T, fr, cs, g1, g2, g3, g4, goff, gce, g5, g6, g7, g8, g9⟩
  · obtain ⟨hEk, hrk⟩ := h.kill hq
    obtain ⟨hE, hr⟩ := hrk.newNil t (o := d) (by rw [St.setO_o, if_neg hne]; exact hd)
    have hw : win xs off len = [] := List.eq_nil_of_length_eq_zero (by omega)
    rw [hw]
    have hn0 : n = 0 := by omega
    subst hn0
    exact ⟨_, hr, Val.leaf rfl ⟨_, rfl, 0, ad, cap, hu, Nat.zero_le _, .bk t [], by simp [St.setO_o], .inr ⟨t, rfl, .inl hz⟩⟩⟩
  · simp only [Sh.off, AV.sh, Option.some.injEq, Prod.mk.injEq] at goff
    obtain ⟨rfl, _⟩ := goff
    have e2 : cs.length = xs.length * t.size := gce.len
    have e1 : ((List.drop 0 cs).take (xs.length * t.size)) = cs := by
      rw [List.drop_zero]; exact List.take_of_length_le (by omega)
    rw [e1] at g9
    have hw := pu_win g9 h0 hn hm
    have hle : (off.toNat + n) * t.size ≤ xs.length * t.size := Nat.mul_le_mul_right t.size (by omega)
    rw [Nat.add_mul] at hle
    rw [Nat.add_mul] at g4
    have hnc : n * t.size ≤ cap * t.size := Nat.mul_le_mul_right _ hcap
    generalize hws : (cs.drop (off.toNat * t.size)).take (n * t.size) = ws at hw
    have hwl : ws.length = n * t.size := hw.2.1
    have hseg : seg cells (l.off + off.toNat * t.size) ws.length = ws := by
      rw [hwl, seg_sub (n := cs.length) (by omega), g6, hws]
    have ho : ∀ x, ((s.setO q .top).setO d (.bk t (win xs off len))).o x = if d = x then some (.bk t (win xs off len)) else if q = x then some .top else s.o x := by
      intro x; rw [St.setO_o, St.setO_o]
    have other : ∀ x c, ((s.setO q .top).setO d (.bk t (win xs off len))).o x = some c → c.sh ≠ .bad → (x = d ∧ c = .bk t (win xs off len)) ∨ (x ≠ d ∧ x ≠ q ∧ s.o x = some c) := by
      intro x c hx hc
      rw [ho] at hx
      by_cases e1 : d = x
      · rw [if_pos e1] at hx; exact .inl ⟨e1.symm, (Option.some.inj hx).symm⟩
      · rw [if_neg e1] at hx
        by_cases e2 : q = x
        · rw [if_pos e2] at hx; cases hx; simp [AV.sh] at hc
        · rw [if_neg e2] at hx; exact .inr ⟨Ne.symm e1, Ne.symm e2, hx⟩
    let l' : Loc := ⟨l.b, l.off + off.toNat * t.size⟩
    have hE : Ext ⟨w, s.o, ρ⟩ ⟨w, ((s.setO q .top).setO d (.bk t (win xs off len))).o, upd ρ d (some l')⟩ := by
      refine ⟨fun b x hF hx => ⟨hx, ?_⟩, fun x c hx => ?_⟩
      · rintro ⟨y, c, k, hy, hc, hk, rfl⟩
        rcases other y c hy hc with ⟨rfl, rfl⟩ | ⟨e1, e2, e3⟩
        · simp only [upd, if_true, Option.some.injEq] at hk
          exact hF ⟨q, _, l, hq, by simp [AV.sh], g1, by rw [← hk]⟩
        · simp only [upd, if_neg e1] at hk
          exact hF ⟨y, c, k, e3, hc, hk, rfl⟩
      · have hx' : s.o x = some c := hx
        have e1 : d ≠ x := fun e => by subst e; rw [hd] at hx'; cases hx'
        by_cases e2 : q = x
        · exact ⟨.top, (ho x).trans (by rw [if_neg e1, if_pos e2]), .inl rfl⟩
        · refine ⟨c, (ho x).trans (by rw [if_neg e1, if_neg e2]; exact hx'), ?_⟩
          by_cases hb' : c.sh = .bad
          · exact .inl hb'
          · exact .inr ⟨hb', rfl, by simp [upd, Ne.symm e1], fun k cl T' fr' hk hkk => ⟨cl, fr', hkk, Nat.le_refl _⟩⟩
    refine ⟨upd ρ d (some l'), ⟨h.size, h.defers, fun i => hE.val (h.tm i), fun x c hx hc => ?_, ?_, ?_, h.fr, fun p hp => hE.val (h.fx p hp)⟩,
      Val.leaf rfl ⟨_, rfl, n, ad, cap, hu, hcap, .bk t (win xs off len), (ho d).trans (if_pos rfl), .inr ⟨t, by simp [AV.sh, hlen], .inr ⟨l', cells, T, fr, by simp [upd], by rw [g2, Nat.add_zero], g3, by show l.off + off.toNat * t.size + cap * t.size ≤ _; omega⟩⟩⟩⟩
    · rcases other x c hx hc with ⟨rfl, rfl⟩ | ⟨e1, e2, e3⟩
      · refine .inl ⟨l', cells, T, fr, ws, by simp [upd], g3, ?_, by show l.off + off.toNat * t.size + ws.length ≤ _; omega, hseg, fun i hi hi' => g7 i (by have : l.off + off.toNat * t.size ≤ i := hi; omega) hi'⟩
        show Pu w _ (.arr (win xs off len).length t) (win xs off len) ws
        rw [hlen]
        exact hw.anywhere (t := .arr n t) ht
      · rcases h.ob x c e3 hc with ⟨k, cl, T', fr', cs', f1, f2, f3, f4, f5, f6⟩ | g
        · exact .inl ⟨k, cl, T', fr', cs', by simp [upd, e1]; exact f1, f2, hE.ce f3, f4, f5, f6⟩
        · exact .inr ⟨by simp [upd, e1]; exact g.1, g.2⟩
    · intro x x' c c' k k' hx hx' hc hc' hk hk' hbb
      rcases other x c hx hc with ⟨rfl, rfl⟩ | ⟨e1, e2, e3⟩ <;> rcases other x' c' hx' hc' with ⟨rfl, rfl⟩ | ⟨e1', e2', e3'⟩
      · rfl
      · exfalso
        simp only [upd, if_true, Option.some.injEq] at hk
        simp only [upd, if_neg e1'] at hk'
        subst hk
        exact e2' (h.inj x' q c' _ k' l e3' hq hc' (by simp [AV.sh]) hk' g1 hbb.symm)
      · exfalso
        simp only [upd, if_neg e1] at hk
        simp only [upd, if_true, Option.some.injEq] at hk'
        subst hk'
        exact e2 (h.inj x q c _ k l e3 hq hc (by simp [AV.sh]) hk g1 hbb)
      · simp only [upd, if_neg e1] at hk
        simp only [upd, if_neg e1'] at hk'
        exact h.inj x x' c c' k k' e3 e3' hc hc' hk hk' hbb
    · intro x c k hx hc hk
      rcases other x c hx hc with ⟨rfl, rfl⟩ | ⟨e1, e2, e3⟩
      · simp only [upd, if_true, Option.some.injEq] at hk
        subst hk
        exact h.own q _ l hq (by simp [AV.sh]) g1
      · simp only [upd, if_neg e1] at hk
        exact h.own x c k e3 hc hk

theorem exP_leaf {α : Type} {t : Ty} {v : AV} {k : List t.den → List Nat → Pg α} {r : α} (h : (exP (.sl t) v k).Out s r s') : v.sh = .leaf := by
  cases v <;> simp [exP, ofP, ofAV, Pg.Out, AV.sh] at h ⊢

theorem pu_drew {F : Nat → Prop} {t : Ty} {x : t.den} {cs : List Value} (h : Pu w F t x cs) : Pu w.drew F t x cs := Pu.mono (w := w) (w' := w.drew) (F := F) (F' := F) (fun b o hb ho => ⟨ho, hb⟩) h

theorem zc_size {z : Value} {n : Nat} : (Builtin.zeroCells z.cells n).size = n * z.cells.size := by simp [Builtin.zeroCells]

theorem give_append (hD : DOk P C) (h : Rep W0 F0 ρ s a w) {o : Oper} {c : Call} {x y : Operand} {T d : Nat} (hop : o.op = .call c) (hcal : c.callee = .builtin .append) (hargs : c.args = #[x, y]) (hT : c.argTypes = #[T, T])
    {av bv v : AV} (h1 : Val ⟨w, s.o, ρ⟩ av (a.eval x)) (h2 : Val ⟨w, s.o, ρ⟩ bv (a.eval y)) (ho : (appPg C T av bv d).Out s v s') : Gives P W0 F0 o a w v s' := by
  unfold appPg at ho
  split at ho
  · rename_i e hk
    split at ho
    · rename_i t ht
      obtain ⟨hns, ho⟩ := out_nif ho
      simp only [Bool.or_eq_false_iff, Bool.not_eq_false'] at hns
      obtain ⟨hns, hbz⟩ := hns
      have hbz : (C.D e).bytes ≠ 0 := fun e0 => by rw [e0] at hbz; simp at hbz
      have h63 : ∀ {n : Nat}, fits n (C.D e).bytes → n ≤ 9223372036854775807 := by
        intro n hf
        have h' : n * (C.D e).bytes ≤ 140737488355328 := hf
        have := Nat.mul_le_mul_left n (show 1 ≤ (C.D e).bytes by omega)
        omega
      obtain ⟨dd, hdu, hkd⟩ := und hD hk (by simp)
      rw [kindB_sl hkd] at hdu
      rcases hD e with he | tke
      · rw [he] at ht; cases ht
      obtain ⟨tke⟩ := tke
      obtain ⟨hts, hzs, hpz⟩ := tke.ty t ht
      have hsz : tke.i.size = t.size := by rw [tke.size, hts]
      have hz : tke.z.cells.size = t.size := by rw [hzs, hts]
      have hleaf := exP_leaf ho
      obtain ⟨ys, ro, ho, _, hp⟩ := exP_out h (h2.ce hleaf) ho
      have hp0 := hp (fun _ => False) (fun b hb => hb.elim)
      obtain ⟨ad2, cap2, hy, hcap2, hfc⟩ := sl_cells (P := P) hp0
      obtain ⟨new, hnew, hpn⟩ := hfc ys.length (Nat.le_refl _)
      rw [List.take_length] at hpn
      obtain ⟨ad2', cap2', hy', hcap2', hfc'⟩ := sl_cells (P := P) (pu_drew hp0)
      obtain ⟨new', hnew', hpn'⟩ := hfc' ys.length (Nat.le_refl _)
      rw [List.take_length] at hpn'
      rw [hy] at hnew hnew'
      rw [← hsz] at hnew hnew'
      have fin : ∀ {u : Value} {w' : World} {ρ' : Nat → Option Loc}, (Builtin.append_ #[T, T] o.type #[a.eval x, a.eval y]).run P w = .ok u w' → Rep W0 F0 ρ' s' a w' → Val ⟨w', s'.o, ρ'⟩ v u → Gives P W0 F0 o a w v s' := by
        intro u w' ρ' hr h3 h4
        exact ⟨u, w', ρ', .inl (by simp [execOp, hop, resolve, hcal, hargs, hT, invoke, builtin, hr]), h3, h4⟩
      have grow : ∀ {n cap : Nat} {ad : Option Addr} {xs : List t.den} {s1 : St} {ρ : Nat → Option Loc} {old : Array Value}, a.eval x = .slice ad n cap → xs.length = n → cap < n + ys.length → fits (n + ys.length) (C.D e).bytes → n + ys.length ≤ 9223372036854775807 →
          (Builtin.firstCells tke.i.size n (.slice ad n cap)).run P w.drew = .ok old w.drew → Pu w.drew (fun _ => False) (.arr xs.length t) xs old.toList → Rep W0 F0 ρ s1 a w → s1.o d = none → v = .full d → s' = s1.setO d (.bk t (xs ++ ys)) → Gives P W0 F0 o a w v s' := by
        intro n cap ad xs s1 ρ old hx hxs hlt hfits h63 hold hpo hr hd hv hs'
        obtain ⟨nc, hnc, hrun⟩ := run_append_new (P := P) (w := w) (ty := o.type) hdu tke.hi tke.hz (by rw [tke.bytes]; exact hfits) h63 hlt hold hnew'
        have hpp := pu_append hpo hpn'
        have hl1 : old.size = xs.length * t.size := by simpa using hpo.2.1
        have hl2 : new'.size = ys.length * t.size := by simpa using hpn'.2.1
        have hle : (n + ys.length) * t.size + (nc - (n + ys.length)) * t.size = nc * t.size := by rw [← Nat.add_mul]; congr 1; omega
        rw [Nat.add_mul] at hle
        rw [hxs] at hl1
        obtain ⟨ρ', h3, h4⟩ := hr.drew.newFull (t := t) (xs := xs ++ ys) (cs := old.toList ++ new'.toList) (cells := old ++ new' ++ Builtin.zeroCells tke.z.cells (nc - (n + ys.length))) (T := e) (fr := (0, 0)) (n := n + ys.length) (cap := nc) hd
          (by rw [List.length_append]; exact hpp.anywhere (t := .arr (xs.length + ys.length) t) hns) (by simp) (by simp only [seg, List.drop_zero, Array.toList_append, List.append_assoc]; rw [← List.append_assoc, List.take_left']; rfl) (fun i _ _ => by simp) (by simp; omega) hnc (by simp only [Array.size_append, zc_size, hz]; omega)
        subst hs' hv
        exact fin (by rw [hx, hy]; exact hrun) h3 h4
      have whole : ∀ {ρ : Nat → Option Loc} {s1 : St} (h : Rep W0 F0 ρ s1 a w) {q : Nat} {xs0 : List t.den} (h1 : Val ⟨w, s1.o, ρ⟩ (.full q) (a.eval x)) (hc : s1.o q = some (.bk t xs0)) (hfits : fits (xs0.length + ys.length) (C.D e).bytes)
          (hd : (s1.setO q .top).o d = none) (hv : v = .full d) (hs' : s' = (s1.setO q .top).setO d (.bk t (xs0 ++ ys))), Gives P W0 F0 o a w v s' := by
        intro ρ s h q xs0 h1 hc hfits hd hv hs'
        subst hv hs'
        obtain ⟨ad, cap, hx, hcap, hk', _⟩ := h.full h1.full_eq hc
        obtain ⟨hEk, hrk⟩ := h.kill hc
        rcases hk' with ⟨hc0, hxs⟩ | ⟨l, cells, T', fr, cs, g1, g2, g3, g4, g5, g6, g7, g8⟩
        · subst hxs
          by_cases hm : ys.length = 0
          · have hys : ys = [] := List.eq_nil_of_length_eq_zero hm
            subst hys
            obtain ⟨hE, hr⟩ := hrk.newNil t hd
            have hn0 : new = #[] := by
              have := hpn.2.1
              simp at this
              exact this
            refine fin (u := .slice ad 0 cap) (w' := w) ?_ hr (Val.leaf rfl ⟨_, rfl, 0, ad, cap, rfl, Nat.zero_le _, .bk t [], by simp [St.setO_o], .inr ⟨t, rfl, .inl hc0⟩⟩)
            rw [hx, hy]
            exact run_append_in (ty := o.type) hdu tke.hi hnew (by simp) ⟨fun x _ => by subst hn0; rfl, fun _ => rfl⟩
          · exact grow (n := 0) (cap := cap) (ad := ad) (xs := []) (s1 := s.setO q .top) (old := #[]) hx rfl (by simp; omega) hfits (h63 hfits) (by cases ad <;> simp [Builtin.firstCells, loadCells, loadCellsFrom]) ⟨by simp, by simp, fun i hi => by simp at hi⟩ hrk hd rfl rfl
        · by_cases hroom : xs0.length + ys.length ≤ cap
          · have hd' : s.o d = none := by
              have hh : (s.setO q .top).o d = none := hd
              rw [St.setO_o] at hh
              split at hh
              · cases hh
              · exact hh
            obtain ⟨ρ', h3, h4⟩ := h.appendIn (d := d) (ys := ys) hc hd' hns g1 g3 g8 g6 g7 hpn hroom g4
            refine fin ?_ h3 h4
            rw [hx, hy, g2]
            refine run_append_in (ty := o.type) hdu tke.hi hnew hroom ⟨fun x hx' => ?_, fun hn => by cases hn⟩
            cases hx'
            have hlen2 : new.size = ys.length * t.size := by simpa using hpn.2.1
            have hle : (xs0.length + ys.length) * t.size ≤ cap * t.size := Nat.mul_le_mul_right _ hroom
            rw [Nat.add_mul] at hle
            rw [addr_add, hsz]
            exact run_storeCells_spl (P := P) (b := l.b) (T := T') (fr := fr) (l.off + xs0.length * t.size) new.toList 0 cells w g3 (by simp; omega) (fun i hi hj => g7 i (by omega) hj) (pu_one hpn)
          · have hlen1 : cs.length = xs0.length * t.size := g8.2.1
            have hold : (Builtin.firstCells tke.i.size xs0.length (.slice ad xs0.length cap)).run P w.drew = .ok (seg cells l.off cs.length).toArray w.drew := by
              rw [g2, hsz]
              simp only [Builtin.firstCells]
              rw [← hlen1]
              exact run_loadCells_seg (w := w.drew) g3 g5
            refine grow (xs := xs0) (s1 := s.setO q .top) hx rfl (by omega) hfits (h63 hfits) hold ?_ hrk hd rfl rfl
            rw [List.toList_toArray, g6]
            exact g8.anywhere (t := .arr xs0.length t) hns
      split at ho
      · -- nil
        obtain ⟨hfits, hd, rfl, rfl⟩ := ho
        have hx := h1.nils_eq
        by_cases hm : ys.length = 0
        · have hys : ys = [] := List.eq_nil_of_length_eq_zero hm
          subst hys
          obtain ⟨hE, hr⟩ := h.newNil t hd
          refine fin (u := .slice none 0 0) (w' := w) ?_ hr (Val.leaf rfl ⟨_, rfl, 0, none, 0, rfl, Nat.le_refl _, .bk t [], by simp [St.setO_o], .inr ⟨t, rfl, .inl rfl⟩⟩)
          rw [hx, hy]
          exact run_append_in (ty := o.type) hdu tke.hi hnew (by simp) ⟨fun _ h => by simp at h, fun _ => rfl⟩
        · exact grow (n := 0) (cap := 0) (ad := none) (xs := []) (s1 := s) (old := #[]) hx rfl (by omega) (by rw [Nat.zero_add]; exact hfits) (by rw [Nat.zero_add]; exact h63 hfits) (by simp [Builtin.firstCells]) ⟨by simp, by simp, fun i hi => by simp at hi⟩ h hd rfl (by simp)
      · -- a row of one's own
        rename_i q _ _
        obtain ⟨cc, hc, hdead, ho⟩ := ho
        dsimp only at ho
        split at ho
        · rename_i t' xs0
          obtain ⟨xs, hcast, ho⟩ := out_ofP ho
          obtain ⟨rfl, rfl⟩ := castL_some hcast
          obtain ⟨hro, hfits, ⟨_, _⟩, hd, rfl, rfl⟩ := out_nif ho
          exact whole h h1 hc hfits hd rfl rfl
        · exact ho.elim
      · -- a view of one
        rename_i q off len _ _
        obtain ⟨cc, hc, hdead, ho⟩ := ho
        dsimp only at ho
        split at ho
        · rename_i t' xs0
          obtain ⟨xs, hcast, ho⟩ := out_ofP ho
          obtain ⟨rfl, rfl⟩ := castL_some hcast
          obtain ⟨hro, hfits, ⟨_, _⟩, hd5, ⟨_, _⟩, hd, rfl, rfl⟩ := out_nif ho
          have hd5' : s.o (Nat.add 500000 d) = none := by
            have hh : (s.setO q .top).o (Nat.add 500000 d) = none := hd5
            rw [St.setO_o] at hh
            split at hh
            · cases hh
            · exact hh
          obtain ⟨ρ1, hr1, hv1⟩ := h.narrow h1.view_eq hc hd5' hns
          exact whole hr1 hv1 (by rw [St.setO_o, if_pos rfl]) hfits hd rfl rfl
        · exact ho.elim
      · exact ho.elim
    · exact ho.elim
  · exact ho.elim
end
end Go.Ev

/- copy and clear; structs and rows that are written out; the greatest and the least. -/
set_option linter.unusedVariables false
set_option linter.unusedSimpArgs false
namespace Go.Ev
open Go
section
variable {P : Program} {C : Cx} {W0 : World} {F0 : Base} {ρ : Nat → Option Loc} {s s' : St} {a : Act} {w : World}

theorem Rep.viewArr (h : Rep W0 F0 ρ s a w) {o : Nat} {p : List PS} {off len : Int} {u : Value} (hv : ViewOf ⟨w, s.o, ρ⟩ o p off len u) {c : AV} (hc : s.o o = some c) (hd : c.dead = false) {t : Ty} {m : Nat} {xs : List t.den} (hat : AV.at p c = some (.arr t m xs)) :
    ∃ n ad cap l k cells T fr cs, u = .slice ad n cap ∧ (n : Int) = len ∧ 0 ≤ off ∧ off + len ≤ m ∧ ρ o = some l ∧ Sh.off p c.sh = some (k, .arr t m) ∧ w.heap[l.b]? = some (.cells cells T fr) ∧ Ce ⟨w, s.o, ρ⟩ c cs ∧ l.off + cs.length ≤ cells.size ∧
      seg cells l.off cs.length = cs ∧ Unfrozen fr l.off cells.size ∧ k + m * t.size ≤ cs.length ∧ Pu w (Env.F ⟨w, s.o, ρ⟩) (.arr m t) xs ((cs.drop k).take (m * t.size)) ∧ (n = 0 ∨ ad = some ⟨l.b, l.off + k + off.toNat * t.size, none⟩) := by
  obtain ⟨n, ad, cap, hu, hn, hcap, h0, hm, hk, _⟩ := h.view hv hc hd hat (.inl rfl)
  rcases hk with hk | ⟨l, k, cells, T, fr, cs, g1, g2, g3, g4, g5, g6, g7, g8, g9, g10, g11⟩
  · obtain ⟨n', ad', cap', hu', _, _, c', hc', hk'⟩ := hv
    have hcc : s.o o = some c' := hc'
    rw [hc] at hcc
    cases hcc
    rcases hk' with hk' | ⟨k, t', m', hoff, _, _, _⟩
    · exact absurd hk' (AV.dead_sh hd)
    · have hoff' : Sh.off p c.sh = some (k, .arr t m) := by
        rcases hoff with hoff | hoff <;> have e := at_off hat hoff <;> simp only [AV.sh] at e
        · rw [e]; exact hoff
        · cases e
      rcases h.ob o c hc (AV.dead_sh hd) with ⟨l, cells, T, fr, cs, g1, g2, g3, g4, g5, g6⟩ | ⟨_, t2, g1⟩
      · have hle := off_le hoff'
        have hce := ce_at hat hoff' g3
        simp only [Sh.size] at hle hce
        rw [← g3.len] at hle
        exact ⟨n, ad, cap, l, k, cells, T, fr, cs, hu, hn, h0, hm, g1, hoff', g2, g3, g4, g5, g6, hle, hce, .inl (by omega)⟩
      · exfalso
        subst g1
        cases p with
        | nil => simp [AV.at] at hat
        | cons x p =>
          cases x with
          | fld i => simp [Sh.off, AV.sh, Sh.nth] at hoff'
          | idx i => simp only [AV.sh, Sh.off, List.length_nil] at hoff'; rw [if_neg (by omega)] at hoff'; cases hoff'
  · exact ⟨n, ad, cap, l, k, cells, T, fr, cs, hu, hn, h0, hm, g1, by simpa [AV.sh] using g5, g3, g6, g7, g8, g9, g10, g11, .inr g2⟩

theorem setRow_nil {b : Nat} {T : TypeId} {fr : Nat × Nat} {cells : Array Value} (hb : w.heap[b]? = some (.cells cells T fr)) (off : Nat) (hf : off ≤ cells.size) (hu : Unfrozen fr off cells.size) : w.setRow b (splA cells off []) = w := by
  have := run_storeCells_spl (P := default) (b := b) (T := T) (fr := fr) off [] 0 cells w hb (by simpa using hf) (by simpa using hu) (by simp)
  simp only [storeCells, Nat.add_zero] at this
  have h2 : (pure () : Sem Unit).run default w = .ok () w := rfl
  rw [h2] at this
  injection this with _ h3
  exact h3.symm

/-- a stretch of an array is written -/
theorem Rep.wr_view (h : Rep W0 F0 ρ s a w) {o : Nat} {p : List PS} {off len : Int} {u : Value} (hv : ViewOf ⟨w, s.o, ρ⟩ o p off len u) {c c' : AV} (hc : s.o o = some c) (hd : c.dead = false) {t : Ty} {m : Nat} {xs zs : List t.den} (hat : AV.at p c = some (.arr t m xs))
    (hput : AV.put p c (.arr t m (splice xs off zs)) = some c') (ht : t.noSl = true) {vs : List Value} (hz : Pu w (fun _ => False) (.arr zs.length t) zs vs) (hl : (zs.length : Int) ≤ len) :
    ∃ n ad cap w', u = .slice ad n cap ∧ (n : Int) = len ∧ Rep W0 F0 ρ (s.setO o c') a w' ∧ (∀ P x, ad = some x → (storeCells x vs).run P w = .ok () w') ∧ (ad = none → w' = w) ∧ (n = 0 → w' = w) := by
  obtain ⟨n, ad, cap, l, k, cells, T, fr, cs, hu, hn, h0, hm, g1, g2, g3, g4, g5, g6, g7, g8, g9, g10⟩ := h.viewArr hv hc hd hat
  have hzl : vs.length = zs.length * t.size := hz.2.1
  have hle : (off.toNat + zs.length) * t.size ≤ m * t.size := Nat.mul_le_mul_right _ (by omega)
  rw [Nat.add_mul] at hle
  have hp := pu_splice g9 (hz.anywhere (t := .arr zs.length t) ht) h0 (by omega)
  obtain ⟨p1, p2⟩ := ce_put (E := ⟨w, s.o, ρ⟩) hput g2 g4 hp
  rw [spl_spl g8 (by omega)] at p1
  have hr := h.wr_part (k := k + off.toNat * t.size) (vs := vs) hc hd g1 g3 g4 g5 g6 g7 (by omega) (put_sh hput) p1
  have hnil : n = 0 → w.setRow l.b (splA cells (l.off + (k + off.toNat * t.size)) vs) = w := by
    intro e
    have hv0 : vs = [] := List.eq_nil_of_length_eq_zero (by rw [hzl, show zs.length = 0 by omega]; simp)
    rw [hv0]
    exact setRow_nil g3 _ (by omega) (fun i hi hj => g7 i (by omega) hj)
  refine ⟨n, ad, cap, _, hu, hn, hr, fun P x hx => ?_, fun hx => ?_, hnil⟩
  · rcases g10 with e | e
    · rw [hnil e]
      have hv0 : vs = [] := List.eq_nil_of_length_eq_zero (by rw [hzl, show zs.length = 0 by omega]; simp)
      rw [hv0]; rfl
    · rw [e] at hx
      cases hx
      have := run_storeCells_spl (P := P) (b := l.b) (T := T) (fr := fr) (l.off + k + off.toNat * t.size) vs 0 cells w g3 (by omega) (fun i hi hj => g7 i (by omega) hj) (pu_one hz)
      rw [Nat.add_zero, Nat.add_assoc l.off] at this
      rw [Nat.add_assoc l.off]
      exact this
  · rcases g10 with e | e
    · exact hnil e
    · rw [e] at hx; cases hx

theorem give_copy (hD : DOk P C) (h : Rep W0 F0 ρ s a w) {o : Oper} {c : Call} {x y : Operand} {T T2 : Nat} (hop : o.op = .call c) (hcal : c.callee = .builtin .copy) (hargs : c.args = #[x, y]) (hT : c.argTypes = #[T, T2])
    {av bv v : AV} (h1 : Val ⟨w, s.o, ρ⟩ av (a.eval x)) (h2 : Val ⟨w, s.o, ρ⟩ bv (a.eval y)) (ho : (copyPg C T T2 av bv).Out s v s') : Gives P W0 F0 o a w v s' := by
  unfold copyPg at ho
  split at ho
  · rename_i e hk
    split at ho
    · split at ho
      · rename_i t ht
        obtain ⟨hns, ho⟩ := out_nif ho
        simp only [Bool.not_eq_false'] at hns
        obtain ⟨dd, hdu, hkd⟩ := und hD hk (by simp)
        rw [kindB_sl hkd] at hdu
        rcases hD e with he | tke
        · rw [he] at ht; cases ht
        obtain ⟨tke⟩ := tke
        obtain ⟨hts, hzs, hpz⟩ := tke.ty t ht
        have hsz : tke.i.size = t.size := by rw [tke.size, hts]
        split at ho
        · rename_i q p off len _
          have hleaf := exP_leaf ho
          obtain ⟨ys, ro, ho, _, hp⟩ := exP_out h (h2.ce hleaf) ho
          obtain ⟨cc, hc, hdead, ho⟩ := ho
          dsimp only at ho
          split at ho
          · rename_i t' m xs hat
            obtain ⟨zs, hcast, ho⟩ := out_ofP ho
            obtain ⟨c', hput, ho⟩ := out_ofP ho
            obtain ⟨_, rfl, rfl⟩ := ho
            obtain ⟨ee, hz'⟩ := castL_some hcast
            subst ee
            have hz'' : ys.take len.toNat = zs := hz'
            subst hz''
            have hp0 := hp (fun _ => False) (fun b hb => hb.elim)
            obtain ⟨ad2, cap2, hy, hcap2, hfc⟩ := sl_cells (P := P) hp0
            obtain ⟨new, hnew, hpn⟩ := hfc (min ys.length len.toNat) (Nat.min_le_left _ _)
            have e1 : ys.take len.toNat = ys.take (min ys.length len.toNat) := by rw [Nat.min_comm, ← List.take_eq_take_min]
            have e2 : (ys.take len.toNat).length = min ys.length len.toNat := by rw [List.length_take, Nat.min_comm]
            have hvw := h1.view_eq
            have hlen0 : 0 ≤ len := by obtain ⟨n, _, _, _, hn, _⟩ := hvw; omega
            obtain ⟨n, ad, cap, w', hu, hn, hr, hst, hnone, hz⟩ := h.wr_view hvw hc hdead hat hput hns (vs := new.toList) (by rw [e2, e1]; exact hpn) (by rw [e2]; omega)
            refine ⟨.int .i64 (mn ys.length len), w', ρ, .inl ?_, hr, Val.mkInt _ _ _⟩
            have hmin : Nat.min ys.length n = min ys.length len.toNat := by
              show min ys.length n = _
              congr 1; omega
            have hres : ((min ys.length len.toNat : Nat) : Int) = mn ys.length len := by
              unfold mn; split <;> omega
            rw [hy, ← hsz] at hnew
            cases ad with
            | none =>
              have := hnone rfl
              subst this
              simp [execOp, hop, resolve, hcal, hargs, hT, invoke, builtin, Builtin.copy_, run_underlying hdu, hu, hy, Builtin.lenOf, hmin, run_sizeOf tke.hi, hnew, goInt, hres]
            | some xx =>
              have := hst P xx rfl
              simp [execOp, hop, resolve, hcal, hargs, hT, invoke, builtin, Builtin.copy_, run_underlying hdu, hu, hy, Builtin.lenOf, hmin, run_sizeOf tke.hi, hnew, this, goInt, hres]
          · exact ho.elim
        · exact ho.elim
      · exact ho.elim
    · exact ho.elim
  · exact ho.elim

theorem give_clear (hD : DOk P C) (h : Rep W0 F0 ρ s a w) {o : Oper} {c : Call} {x : Operand} {T : Nat} (hop : o.op = .call c) (hcal : c.callee = .builtin .clear) (hargs : c.args = #[x]) (hT : c.argTypes = #[T])
    {av v : AV} (h1 : Val ⟨w, s.o, ρ⟩ av (a.eval x)) (ho : (clearPg C T av).Out s v s') : Gives P W0 F0 o a w v s' := by
  unfold clearPg at ho
  split at ho
  · rename_i e hk
    split at ho
    · rename_i t ht
      obtain ⟨hns, ho⟩ := out_nif ho
      simp only [Bool.not_eq_false'] at hns
      obtain ⟨dd, hdu, hkd⟩ := und hD hk (by simp)
      rw [kindB_sl hkd] at hdu
      rcases hD e with he | tke
      · rw [he] at ht; cases ht
      obtain ⟨tke⟩ := tke
      obtain ⟨hts, hzs, hpz⟩ := tke.ty t ht
      have hsz : tke.i.size = t.size := by rw [tke.size, hts]
      have hz : tke.z.cells.size = t.size := by rw [hzs, hts]
      split at ho
      · rename_i q p off len _
        obtain ⟨cc, hc, hdead, ho⟩ := ho
        dsimp only at ho
        split at ho
        · rename_i t' m xs hat
          obtain ⟨zs, hcast, ho⟩ := out_ofP ho
          obtain ⟨c', hput, ho⟩ := out_ofP ho
          obtain ⟨_, rfl, rfl⟩ := ho
          obtain ⟨ee, hz'⟩ := castL_some hcast
          subst ee
          have hz'' : List.replicate len.toNat t.dflt = zs := hz'
          subst hz''
          have hvw := h1.view_eq
          have hlen0 : 0 ≤ len := by obtain ⟨n, _, _, _, hn, _⟩ := hvw; omega
          have hrow := zero_row (F := fun _ => False) (w := w) hz hpz len.toNat len.toNat (Nat.le_refl _)
          rw [List.take_of_length_le (by simp [hz])] at hrow
          obtain ⟨n, ad, cap, w', hu, hn, hr, hst, hnone, hz0⟩ := h.wr_view hvw hc hdead hat hput hns (vs := ((Array.range (len.toNat * tke.z.cells.size)).map fun i => tke.z.cells[i % tke.z.cells.size]!).toList) (by rw [List.length_replicate]; exact hrow) (by simp; omega)
          refine ⟨.tuple #[], w', ρ, .inl ?_, hr, Val.top _⟩
          have hnn : n = len.toNat := by omega
          by_cases hn0 : n = 0
          · have := hz0 hn0
            subst this
            rw [hn0] at hu
            cases ad <;> simp [execOp, hop, resolve, hcal, hargs, hT, invoke, builtin, Builtin.clear_, run_underlying hdu, hu]
          · cases ad with
            | none =>
              have := hnone rfl
              subst this
              simp [execOp, hop, resolve, hcal, hargs, hT, invoke, builtin, Builtin.clear_, run_underlying hdu, hu]
            | some xx =>
              have := hst P xx rfl
              have e1 : (Builtin.zeroCells tke.z.cells n).toList = ((Array.range (len.toNat * tke.z.cells.size)).map fun i => tke.z.cells[i % tke.z.cells.size]!).toList := by
                rw [hnn]; rfl
              rw [← e1] at this
              simp [execOp, hop, resolve, hcal, hargs, hT, invoke, builtin, Builtin.clear_, run_underlying hdu, hu, hn0, run_zeroValue tke.hi tke.hz, this]
        · exact ho.elim
      · exact ho.elim
    · exact ho.elim
  · exact ho.elim
end
end Go.Ev

/- Structs and rows that are written out; the greatest and the least. -/
set_option linter.unusedVariables false
set_option linter.unusedSimpArgs false
namespace Go.Ev
open Go
section
variable {P : Program} {C : Cx} {W0 : World} {F0 : Base} {ρ : Nat → Option Loc} {s s' : St} {a : Act} {w : World}

theorem fold_set (vs : List Value) : ∀ (k j : Nat) (cs : Array Value), k + j + vs.length ≤ cs.size → ((vs.zipIdx j).foldl (fun cs (x : Value × Nat) => cs.setIfInBounds (k + x.2) x.1) cs).toList = spl cs.toList (k + j) vs := by
  induction vs with
  | nil => intro k j cs h; simp [spl]
  | cons v r ih =>
    intro k j cs h
    simp only [List.length_cons] at h
    simp only [List.zipIdx_cons, List.foldl_cons]
    rw [ih k (j + 1) _ (by simp; omega)]
    apply List.ext_getElem?
    intro i
    rw [spl_get (by simp; omega), spl_get (by simp; omega)]
    simp only [Array.toList_setIfInBounds, List.length_cons]
    by_cases c1 : i < k + j
    · rw [if_pos (by omega), if_pos c1, List.getElem?_set, if_neg (by omega)]
    · rw [if_neg c1]
      by_cases c2 : i = k + j
      · subst c2
        rw [if_pos (by omega), if_pos (by omega), List.getElem?_set, if_pos rfl]
        simp; omega
      · rw [if_neg (by omega)]
        by_cases c3 : i < k + j + (r.length + 1)
        · rw [if_pos (by omega), if_pos c3]
          rw [show i - (k + j) = (i - (k + (j + 1))) + 1 by omega, List.getElem?_cons_succ]
        · rw [if_neg (by omega), if_neg c3, List.getElem?_set, if_neg (by omega)]

theorem fill_cons (place : Nat → Option (Nat × Nat)) (cells : Array Value) (i : Nat) (v : Value) (rest : List (Nat × Value)) {off size : Nat} (hp : place i = some (off, size)) (hs : v.cells.size = size) (hf : off + size ≤ cells.size) :
    Instr.fill place cells ((i, v) :: rest) = Instr.fill place (splA cells off v.cells.toList) rest := by
  simp only [Instr.fill, hp]
  have h1 : ¬ (v.cells.size ≠ size || decide (off + v.cells.size > cells.size)) = true := by
    simp [hs]; omega
  rw [if_neg h1]
  congr 1
  have := fold_set v.cells.toList off 0 cells (by simp; omega)
  rw [Nat.add_zero] at this
  apply Array.ext'
  show _ = (spl cells.toList off v.cells.toList).toArray.toList
  rw [List.toList_toArray, ← this]
  congr 1
  rw [← Array.foldl_toList]
  simp [Array.toList_zipIdx]

theorem setParts_fill {E : Env} {fs : List (Nat × Nat)} {place : Nat → Option (Nat × Nat)} (hpl : ∀ (i ft off : Nat), fs[i]? = some (ft, off) → place i = some (off, (C.D ft).size)) :
    ∀ {is : List Nat} {vs : List AV} {us : List Value} {c c' : AV} {cells : Array Value}, Vals E vs us → setParts C fs (is.zip vs) c = some c' → Ce E c cells.toList → ∃ cells', Instr.fill place cells (is.zip us) = some cells' ∧ Ce E c' cells'.toList ∧ c'.agg = c.agg := by
  intro is
  induction is with
  | nil =>
    intro vs us c c' cells hv h hc
    simp [setParts] at h
    subst h
    exact ⟨cells, by simp [Instr.fill], hc, rfl⟩
  | cons i is ih =>
    intro vs us c c' cells hv h hc
    cases vs with
    | nil =>
      simp only [Vals] at hv
      subst hv
      simp [setParts] at h
      subst h
      exact ⟨cells, by simp [Instr.fill], hc, rfl⟩
    | cons v vs =>
      obtain ⟨u, us', rfl, hu, hv⟩ := hv
      simp only [List.zip_cons_cons, setParts] at h
      split at h
      · rename_i ft off hf
        split at h
        · rename_i k e hn
          cases hb : (k.beq off && e.size.beq (C.D ft).size && !v.dead && !bkB v) with
          | false => rw [hb] at h; cases h
          | true =>
            rw [hb] at h
            simp only [cond_true] at h
            simp only [Bool.and_eq_true, Bool.not_eq_true'] at hb
            obtain ⟨⟨⟨b1, b2⟩, b3⟩, b4⟩ := hb
            have b1 := Nat.eq_of_beq_eq_true b1
            have b2 := Nat.eq_of_beq_eq_true b2
            subst b1
            split at h
            · rename_i c1 hput
              obtain ⟨hce, _⟩ := hu.cells (AV.dead_sh b3) (by rintro t xs rfl; simp [bkB] at b4)
              have hoff : Sh.off [.fld i] c.sh = some (k, e) := by simp [Sh.off, hn]
              obtain ⟨p1, p2⟩ := ce_put hput hoff hc hce
              have hle := off_le hoff
              have hlen := hc.len
              have hus : u.cells.size = (C.D ft).size := by rw [← b2, ← p2]; simp
              obtain ⟨cells', h1, h2, h3⟩ := ih hv h (cells := splA cells k u.cells.toList) (by rw [splA, List.toList_toArray]; exact p1)
              refine ⟨cells', ?_, h2, h3.trans ?_⟩
              · simp only [List.zip_cons_cons]
                rw [fill_cons place cells i u _ (hpl i ft k hf) hus (by simp at hlen; omega)]
                exact h1
              · have := put_sh hput
                cases c <;> simp [AV.sh, Sh.nth] at hn <;> cases c1 <;> simp_all [AV.sh, AV.agg]
            · cases h
        · cases h
      · cases h

theorem mapM_all {α β : Type} {f : α → Option β} {g : α → β} : ∀ {l : List α}, (∀ x ∈ l, f x = some (g x)) → l.mapM f = some (l.map g)
  | [], _ => rfl
  | x :: r, h => by
    have h1 := h x (by simp)
    have h2 := mapM_all (l := r) fun y hy => h y (by simp [hy])
    simp [h1, h2]

theorem give_build (hD : DOk P C) (h : Rep W0 F0 ρ s a w) {o : Oper} {T : Nat} {parts : Array (Nat × Operand)} (hop : o.op = .build T parts) {v : AV}
    (ho : (rdXs (parts.toList.map (·.2)) fun vs => buildPg C T (parts.toList.map (·.1)) vs).Out s v s') : Gives P W0 F0 o a w v s' := by
  obtain ⟨vs, hvs, ho1⟩ := out_rdXs h ho
  clear ho
  have ho := ho1
  clear ho1
  unfold buildPg at ho
  have hzip : (parts.map fun (x : Nat × Operand) => (x.1, a.eval x.2)).toList = (parts.toList.map (·.1)).zip ((parts.toList.map (·.2)).map a.eval) := by
    rw [Array.toList_map, List.map_map]
    induction parts.toList with
    | nil => rfl
    | cons x r ih => simp [ih]
  have fin : ∀ {cells : Array Value}, P.built T (parts.map fun (x : Nat × Operand) => (x.1, a.eval x.2)).toList = some cells → v.agg = true → Ce ⟨w, s.o, ρ⟩ v cells.toList → s' = s → Gives P W0 F0 o a w v s' := by
    intro cells hb hagg hc hs
    subst hs
    refine ⟨.agg cells, w, ρ, .inl ?_, h, .inl (.inr (.inl ⟨hagg, cells.toList, by simp, hc⟩))⟩
    have := run_build (P := P) w T (parts.map fun (x : Nat × Operand) => (x.1, a.eval x.2)) cells hb
    simp only [execOp, hop]
    simp [this]
  split at ho
  · rename_i fs hk
    obtain ⟨hb, ho⟩ := out_bif ho
    simp only [Bool.and_eq_true, Bool.not_eq_true'] at hb
    obtain ⟨⟨b1, b2⟩, b3⟩ := hb
    obtain ⟨c', hset, rfl, rfl⟩ := out_ofP ho
    rcases hD T with e | tk
    · rw [e] at hk; cases hk
    obtain ⟨tk⟩ := tk
    obtain ⟨hz, _, _⟩ := tk.zero b2
    obtain ⟨fields, hd, hfs⟩ := kindB_st (hk ▸ tk.kind)
    have hall : ∀ {l : List (Nat × Nat)}, allOk C l = true → ∀ x ∈ l, (C.D x.1).k.ok = true := by
      intro l
      induction l with
      | nil => intro _ x hx; cases hx
      | cons y r ih =>
        intro h x hx
        obtain ⟨y1, y2⟩ := y
        simp only [allOk, Bool.and_eq_true] at h
        rcases List.mem_cons.1 hx with rfl | hx
        · exact h.1
        · exact ih h.2 x hx
    have hinfo : ∀ f ∈ fields.toList, ∃ i, P.info? f.type = some i ∧ i.size = (C.D f.type).size := by
      intro f hf
      have : (f.type, f.offset) ∈ fs := by rw [← hfs]; exact List.mem_map.2 ⟨f, hf, rfl⟩
      have hok := hall b1 _ this
      obtain ⟨tkf⟩ := tok_of_kind hD (T := f.type) (fun e => by rw [e] at hok; simp [TK.ok] at hok)
      exact ⟨tkf.i, tkf.hi, tkf.size⟩
    have hplaces : fields.toList.mapM (fun f => (P.info? f.type).map fun i => (f.offset, i.size)) = some (fields.toList.map fun f => (f.offset, (C.D f.type).size)) := by
      refine mapM_all fun f hf => ?_
      obtain ⟨i, hi, hs⟩ := hinfo f hf
      simp [hi, hs]
    obtain ⟨cells', h1, h2, h3⟩ := setParts_fill (C := C) (E := ⟨w, s'.o, ρ⟩) (place := ((fields.toList.map fun f => (f.offset, (C.D f.type).size)).toArray[·]?)) (fun i ft off hf => by
      obtain ⟨fd, e1, e2, e3⟩ := st_field hfs hf
      have : fields.toList[i]? = some fd := by simpa using e1
      simp [this, e2, e3]) hvs hset (hz _)
    refine fin (cells := cells') ?_ (h3.trans b3) h2 rfl
    unfold Program.built
    rw [tk.hi, tk.hd, hd]
    simp only [tk.hz, hplaces]
    rw [hzip]
    exact h1
  · rename_i n e hk
    split at ho
    · obtain ⟨hb, rfl, rfl⟩ := out_bif ho
      simp only [Bool.and_eq_true, Bool.not_eq_true'] at hb
      obtain ⟨⟨b1, b2⟩, b3⟩ := hb
      rcases hD T with e0 | tk
      · rw [e0] at hk; cases hk
      obtain ⟨tk⟩ := tk
      obtain ⟨hz, _, _⟩ := tk.zero b2
      have hd := kindB_arr (hk ▸ tk.kind)
      obtain ⟨tke⟩ := tok_of_kind hD (T := e) (fun e0 => by rw [e0] at b1; simp [TK.ok] at b1)
      have hnil : parts.toList.map (fun x => a.eval x.2) = [] := by
        have : (parts.toList.map (·.2)).map a.eval = [] := hvs
        simpa [List.map_map] using this
      have hp0 : parts.toList = [] := by simpa using hnil
      refine fin (cells := tk.z.cells) ?_ b3 (hz _) rfl
      unfold Program.built
      rw [tk.hi, tk.hd, hd]
      simp only [tk.hz, tke.hi]
      rw [hzip, hp0]
      simp [Instr.fill]
    · exact ho.elim
  · exact ho.elim

theorem litOf_pu {E : Env} {t : Ty} : ∀ {vs : List AV} {us : List Value} {xs : List t.den}, Vals E vs us → litOf t vs = some xs → xs.length = us.length ∧ ∀ (i : Nat) (u : Value) (x : t.den), us[i]? = some u → xs[i]? = some x → Pu E.w E.F t x u.cells.toList := by
  intro vs
  induction vs with
  | nil =>
    intro us xs hv h
    simp only [Vals] at hv
    subst hv
    simp [litOf] at h
    subst h
    exact ⟨rfl, fun i u x hu => by simp at hu⟩
  | cons v r ih =>
    intro us xs hv h
    obtain ⟨u, us', rfl, hu, hv⟩ := hv
    simp only [litOf] at h
    split at h
    · rename_i x hx
      split at h
      · rename_i xs' hxs
        simp at h
        subst h
        obtain ⟨h1, h2⟩ := ih hv hxs
        have hsh : v.sh ≠ .bad := by
          intro e
          cases v <;> simp [AV.sh] at e <;> cases t <;> simp [ofAV] at hx
        have hbk : ∀ t' ys, v ≠ .bk t' ys := by
          rintro t' ys rfl
          cases t <;> simp [ofAV] at hx
        obtain ⟨hce, _⟩ := hu.cells hsh hbk
        obtain ⟨hp, _⟩ := pu_ofAV hx hce
        refine ⟨by simp [h1], fun i u' x' hu' hx' => ?_⟩
        cases i with
        | zero => simp at hu' hx'; subst hu' hx'; exact hp
        | succ i => exact h2 i u' x' (by simpa using hu') (by simpa using hx')
      · cases h
    · cases h

/-- rows laid one after the other -/
theorem fill_rows {F : Nat → Prop} {t : Ty} {m : Nat} : ∀ {is : List Nat} {us : List Value} {xs : List t.den} {j : Nat} {cells : Array Value}, isRange is j = true → is.length = us.length → xs.length = us.length → cells.size = m * t.size → j + us.length ≤ m →
    (∀ (i : Nat) (u : Value) (x : t.den), us[i]? = some u → xs[i]? = some x → Pu w F t x u.cells.toList) → ∀ (ys : List t.den), ys.length = j → Pu w F (.arr j t) ys (cells.toList.take (j * t.size)) →
    ∃ cells', Instr.fill (fun i => some (i * t.size, t.size)) cells (is.zip us) = some cells' ∧ cells'.size = m * t.size ∧ Pu w F (.arr (j + us.length) t) (ys ++ xs) (cells'.toList.take ((j + us.length) * t.size)) := by
  intro is
  induction is with
  | nil =>
    intro us xs j cells hr h1 h2 h3 h4 h5 ys h6 h7
    have : us = [] := List.eq_nil_of_length_eq_zero (by simpa using h1.symm)
    subst this
    have : xs = [] := List.eq_nil_of_length_eq_zero (by simpa using h2)
    subst this
    exact ⟨cells, by simp [Instr.fill], h3, by simpa using h7⟩
  | cons i is ih =>
    intro us xs j cells hr h1 h2 h3 h4 h5 ys h6 h7
    cases us with
    | nil => simp at h1
    | cons u us =>
      cases xs with
      | nil => simp at h2
      | cons x xs =>
        simp only [isRange, Bool.and_eq_true] at hr
        have hi := Nat.eq_of_beq_eq_true hr.1
        subst hi
        have hp := h5 0 u x rfl rfl
        have hus : u.cells.size = t.size := by simpa using hp.len
        simp only [List.length_cons] at h4
        have hle := mul_succ_le (k := t.size) (show i < m by omega)
        simp only [List.zip_cons_cons]
        rw [fill_cons _ cells i u _ (off := i * t.size) (size := t.size) rfl hus (by omega)]
        have hsz : (splA cells (i * t.size) u.cells.toList).size = cells.size := splA_size (by simp; omega)
        have hnew : Pu w F (.arr (i + 1) t) (ys ++ [x]) ((splA cells (i * t.size) u.cells.toList).toList.take ((i + 1) * t.size)) := by
          have e1 : (splA cells (i * t.size) u.cells.toList).toList.take ((i + 1) * t.size) = cells.toList.take (i * t.size) ++ u.cells.toList := by
            unfold splA spl
            rw [List.toList_toArray, List.append_assoc, ← List.append_assoc, List.take_left']
            simp [Nat.add_mul, hus]
            omega
          rw [e1]
          refine pu_append h7 ⟨rfl, by simp [hus], fun q hq => ?_⟩
          have : q = 0 := by simp at hq; omega
          subst this
          simp only [Nat.zero_mul, List.drop_zero]
          rw [List.take_of_length_le (by simp [hus])]
          exact hp
        obtain ⟨cells', g1, g2, g3⟩ := ih (us := us) (xs := xs) (j := i + 1) hr.2 (by simpa using h1) (by simpa using h2) (hsz.trans h3) (by omega) (fun q u' x' hu' hx' => h5 (q + 1) u' x' (by simpa using hu') (by simpa using hx')) (ys ++ [x]) (by simp [h6]) hnew
        refine ⟨cells', g1, g2, ?_⟩
        rw [List.append_assoc] at g3
        have e : i + 1 + us.length = i + (u :: us).length := by simp; omega
        rw [← e]
        exact g3

theorem leaf_cells {E : Env} {v : AV} {u : Value} (h : Val E v u) (hs : v.sh = .leaf) : u.cells.toList = [u] ∧ Ce E v [u] := by
  have hc := h.ce hs
  refine ⟨?_, hc⟩
  have := ce_one hc u (List.mem_singleton.2 rfl)
  cases u <;> first | rfl | simp [Value.oneCell'] at this
theorem leafs_ce {E : Env} : ∀ {vs : List AV} {us : List Value}, Vals E vs us → leafs vs = true → Ce E (listAV vs) us ∧ (listAV vs).sh.size = us.length ∧ ∀ u, u ∈ us → u.cells.toList = [u] := by
  intro vs
  induction vs with
  | nil => intro us hv _; simp only [Vals] at hv; subst hv; exact ⟨rfl, rfl, fun u hu => by cases hu⟩
  | cons v r ih =>
    intro us hv h
    obtain ⟨u, us', rfl, hu, hv⟩ := hv
    simp only [leafs, Bool.and_eq_true] at h
    have hs : v.sh = .leaf := by
      have := h.1
      split at this
      · assumption
      · cases this
    obtain ⟨a, b, c⟩ := ih hv h.2
    obtain ⟨d, e⟩ := leaf_cells hu hs
    have e1 : v.sh.size = 1 := by rw [hs]; rfl
    refine ⟨⟨by rw [e1]; exact e, by rw [e1]; exact a⟩, ?_, fun x hx => ?_⟩
    · show v.sh.size + (listAV r).sh.size = _
      rw [e1, b]; simp; omega
    · rcases List.mem_cons.1 hx with rfl | hx
      · exact d
      · exact c x hx
theorem fill_leafs {m : Nat} : ∀ {is : List Nat} {us : List Value} {j : Nat} {cells : Array Value}, isRange is j = true → is.length = us.length → cells.size = m → j + us.length ≤ m → (∀ u, u ∈ us → u.cells.toList = [u]) → ∀ (ys : List Value), ys.length = j → cells.toList.take j = ys →
    ∃ cells', Instr.fill (fun i => some (i * 1, 1)) cells (is.zip us) = some cells' ∧ cells'.size = m ∧ cells'.toList.take (j + us.length) = ys ++ us := by
  intro is
  induction is with
  | nil =>
    intro us j cells hr h1 h3 h4 h5 ys h6 h7
    have : us = [] := List.eq_nil_of_length_eq_zero (by simpa using h1.symm)
    subst this
    exact ⟨cells, by simp [Instr.fill], h3, by simpa using h7⟩
  | cons i is ih =>
    intro us j cells hr h1 h3 h4 h5 ys h6 h7
    cases us with
    | nil => simp at h1
    | cons u us =>
      simp only [isRange, Bool.and_eq_true] at hr
      have hi := Nat.eq_of_beq_eq_true hr.1
      subst hi
      have hu := h5 u (List.mem_cons_self ..)
      have hus : u.cells.size = 1 := by rw [← Array.length_toList, hu]; rfl
      simp only [List.length_cons] at h4
      simp only [List.zip_cons_cons]
      rw [fill_cons _ cells i u _ (off := i * 1) (size := 1) rfl hus (by omega)]
      have hsz : (splA cells (i * 1) u.cells.toList).size = cells.size := splA_size (by rw [hu]; simp; omega)
      have hnew : (splA cells (i * 1) u.cells.toList).toList.take (i + 1) = ys ++ [u] := by
        unfold splA spl
        rw [List.toList_toArray, hu, List.append_assoc, ← List.append_assoc, List.take_left']
        · rw [Nat.mul_one, h7]
        · simp; omega
      obtain ⟨cells', g1, g2, g3⟩ := ih (us := us) (j := i + 1) hr.2 (by simpa using h1) (hsz.trans h3) (by omega) (fun x hx => h5 x (List.mem_cons_of_mem _ hx)) (ys ++ [u]) (by simp [h6]) hnew
      refine ⟨cells', g1, g2, ?_⟩
      rw [List.append_assoc] at g3
      have e : i + 1 + us.length = i + (u :: us).length := by simp; omega
      rw [← e]
      exact g3
theorem give_bsl (hD : DOk P C) (h : Rep W0 F0 ρ s a w) {o : Oper} {T len d : Nat} {parts : Array (Nat × Operand)} (hop : o.op = .buildSlice T len parts) {v : AV}
    (ho : (rdXs (parts.toList.map (·.2)) fun vs => bslPg C T len (parts.toList.map (·.1)) vs d).Out s v s') : Gives P W0 F0 o a w v s' := by
  obtain ⟨vs, hvs, ho1⟩ := out_rdXs h ho
  clear ho
  have ho := ho1
  clear ho1
  unfold bslPg at ho
  have hzip : (parts.map fun (x : Nat × Operand) => (x.1, a.eval x.2)).toList = (parts.toList.map (·.1)).zip ((parts.toList.map (·.2)).map a.eval) := by
    rw [Array.toList_map, List.map_map]
    induction parts.toList with
    | nil => rfl
    | cons x r ih => simp [ih]
  split at ho
  · rename_i e hk
    split at ho
    · rename_i t ht
      obtain ⟨hb, ho⟩ := out_bif ho
      simp only [Bool.and_eq_true] at hb
      obtain ⟨⟨b1, b2⟩, b3⟩ := hb
      have b2 := Nat.eq_of_beq_eq_true b2
      obtain ⟨xs, hlit, hn, rfl, rfl⟩ := out_ofP ho
      obtain ⟨dd, hdu, hkd⟩ := und hD hk (by simp)
      rw [kindB_sl hkd] at hdu
      rcases hD e with he | tke
      · rw [he] at ht; cases ht
      obtain ⟨tke⟩ := tke
      obtain ⟨hts, hzs, hpz⟩ := tke.ty t ht
      have hsz : tke.i.size = t.size := by rw [tke.size, hts]
      have hz : tke.z.cells.size = t.size := by rw [hzs, hts]
      obtain ⟨hl1, hl2⟩ := litOf_pu hvs hlit
      have hlen : ((parts.toList.map (·.2)).map a.eval).length = len := by rw [← b2]; simp
      obtain ⟨cells', g1, g2, g3⟩ := fill_rows (w := w) (F := Env.F ⟨w, s.o, ρ⟩) (t := t) (m := len) (cells := (Array.range (len * t.size)).map (fun i => (if len * t.size = 0 then #[] else tke.z.cells)[i % (if len * t.size = 0 then #[] else tke.z.cells).size]!)) b1 (by simp) hl1 (by simp) (by rw [hlen]; omega) hl2 [] rfl
        ⟨by simp, by simp, fun i hi => by omega⟩
      rw [hlen, Nat.zero_add] at g3
      simp only [List.nil_append] at g3
      have hxl : xs.length = len := by rw [hl1, hlen]
      obtain ⟨ρ', h3, h4⟩ := h.newFull (t := t) (xs := xs) (cs := cells'.toList.take (len * t.size)) (cells := cells') (T := e) (fr := (0, 0)) (n := len) (cap := len) hn (by rw [hxl]; exact g3) (by simp; omega)
        (by simp only [seg, List.drop_zero, List.length_take]; rw [List.take_eq_take_iff]; omega) (fun i _ _ => by simp) hxl (Nat.le_refl _) (by omega)
      refine ⟨_, _, ρ', .inl ?_, h3, h4⟩
      have hb3 : ¬ len * t.size > 16777216 := by
        have : Nat.blt (len * (C.D e).size) 16777217 = true := b3
        simp at this
        rw [hts]; omega
      rw [← hzip] at g1
      have hrun : (Instr.buildSlice T len (parts.map fun (x : Nat × Operand) => (x.1, a.eval x.2))).run P w = .ok (.slice (some ⟨w.heap.size, 0, none⟩) len len) (w.alloc (.cells cells' e)) := by
        unfold Instr.buildSlice
        simp only [Sem.run_bind, run_underlying hdu, Result.andThen_ok, run_sizeOf tke.hi, hsz]
        rw [if_neg (by simpa using hb3)]
        by_cases h0 : len * t.size = 0
        · simp only [h0, if_true] at g1 ⊢
          simp at g1
          simp [newRow, g1]
        · simp only [h0, if_false] at g1 ⊢
          simp only [Array.toList_map] at g1
          simp [run_zeroValue tke.hi tke.hz, newRow, g1]
      simp only [execOp, hop]
      simp [hrun]
    · rename_i ht
      unfold bslV at ho
      obtain ⟨hb, ho⟩ := out_bif ho
      simp only [Bool.and_eq_true] at hb
      obtain ⟨⟨⟨⟨b1, b2⟩, b3, b4⟩, b5, b6⟩, b7⟩ := hb
      have b2 := Nat.eq_of_beq_eq_true b2
      have b5 := Nat.eq_of_beq_eq_true b5
      have b3 : 0 < len := by simpa using b3
      have b4 : len < 16777217 := by simpa using b4
      obtain ⟨hn, rfl, rfl⟩ := ho
      obtain ⟨dd, hdu, hkd⟩ := und hD hk (by simp)
      rw [kindB_sl hkd] at hdu
      obtain ⟨tke⟩ := tok_of_kind hD (T := e) (by intro h0; rw [h0] at b6; cases b6)
      have hsz : tke.i.size = 1 := by rw [tke.size, b5]
      obtain ⟨l1, l2, l3⟩ := leafs_ce hvs b7
      have hlen : ((parts.toList.map (·.2)).map a.eval).length = len := by rw [← b2]; simp
      obtain ⟨cells', g1, g2, g3⟩ := fill_leafs (m := len) (cells := (Array.range (len * 1)).map (fun i => (if len * 1 = 0 then #[] else tke.z.cells)[i % (if len * 1 = 0 then #[] else tke.z.cells).size]!)) b1 (by simp) (by simp) (by rw [hlen]; omega) l3 [] rfl rfl
      rw [hlen, Nat.zero_add] at g3
      simp only [List.nil_append] at g3
      have hcl : cells'.toList = (parts.toList.map (·.2)).map a.eval := by
        rw [← g3, List.take_of_length_le (by simp; omega)]
      have hE := h.new (o := d) (c := listAV vs) (cs := (parts.toList.map (·.2)).map a.eval) (cells := cells') (T := e) (fr := (0, 0)) hn l1 (by rw [hlen]; omega) (by rw [← hcl]; exact seg_all cells') (fun i _ _ => by simp)
      refine ⟨.slice (some ⟨w.heap.size, 0, none⟩) len len, _, upd ρ d (some ⟨w.heap.size, 0⟩), .inl ?_, hE, Val.leaf rfl ⟨_, rfl, listAV vs, by simp [St.setO_o], .inr ⟨⟨w.heap.size, 0⟩, 0, _, by simp [upd], rfl, rfl⟩⟩⟩
      have hb3 : ¬ len * 1 > 16777216 := by omega
      rw [← hzip] at g1
      have hrun : (Instr.buildSlice T len (parts.map fun (x : Nat × Operand) => (x.1, a.eval x.2))).run P w = .ok (.slice (some ⟨w.heap.size, 0, none⟩) len len) (w.alloc (.cells cells' e)) := by
        unfold Instr.buildSlice
        simp only [Sem.run_bind, run_underlying hdu, Result.andThen_ok, run_sizeOf tke.hi, hsz]
        rw [if_neg (by simpa using hb3)]
        have h0 : ¬ len * 1 = 0 := by omega
        simp only [h0, if_false] at g1 ⊢
        simp only [Array.toList_map] at g1
        simp [run_zeroValue tke.hi tke.hz, newRow] at g1 ⊢
        simp [g1]
      simp only [execOp, hop]
      simp [hrun]
  · exact ho.elim

theorem give_mnmx (h : Rep W0 F0 ρ s a w) {o : Oper} {c : Call} {xs : List Operand} (hop : o.op = .call c) (hargs : c.args.toList = xs) {vs : List AV} (hv : Vals ⟨w, s.o, ρ⟩ vs (xs.map a.eval)) {v : AV} :
    (c.callee = .builtin .max → (mnmxPg mx mxS vs).Out s v s' → Gives P W0 F0 o a w v s') ∧ (c.callee = .builtin .min → (mnmxPg mn mnS vs).Out s v s' → Gives P W0 F0 o a w v s') := by
  have key : ∀ (b : Builtin) (f : Int → Int → Int) (g : ByteArray → ByteArray → ByteArray) (f2 : Value → Value → Sem Value), (∀ k x k' y, f2 (.int k x) (.int k' y) = pure (.int k (f x y))) → (∀ x y, f2 (.string x) (.string y) = pure (.string (g x y))) → c.callee = .builtin b →
      (∀ x r, c.args.map a.eval = (x :: r).toArray → ∀ u, (r.foldlM f2 x).run P w = .ok u w → (execOp a.eval o).run P w = .ok (.value u) w) → (mnmxPg f g vs).Out s v s' → Gives P W0 F0 o a w v s' := by
    intro b f g f2 hf hg hcal hex ho
    have hmap : c.args.map a.eval = (xs.map a.eval).toArray := by
      rw [← hargs]; apply Array.ext'; simp
    unfold mnmxPg at ho
    split at ho
    · rename_i x y
      obtain ⟨rfl, rfl⟩ := ho
      obtain ⟨u1, r1, e1, v1, u2, r2, e2, v2, e3⟩ := hv
      rw [e2, e3] at e1
      rw [e1, v1.str_eq, v2.str_eq] at hmap
      exact ⟨_, w, ρ, .inl (hex _ _ hmap _ (by simp [List.foldlM, hg])), h, Val.mkStr _ _⟩
    · rename_i k x k' y
      obtain ⟨rfl, rfl⟩ := ho
      obtain ⟨u1, r1, e1, v1, u2, r2, e2, v2, e3⟩ := hv
      rw [e2, e3] at e1
      rw [e1, v1.int_eq, v2.int_eq] at hmap
      exact ⟨_, w, ρ, .inl (hex _ _ hmap _ (by simp [List.foldlM, hf])), h, Val.mkInt _ _ _⟩
    · rename_i k x k' y k'' z
      obtain ⟨rfl, rfl⟩ := ho
      obtain ⟨u1, r1, e1, v1, u2, r2, e2, v2, u3, r3, e3, v3, e4⟩ := hv
      rw [e2, e3, e4] at e1
      rw [e1, v1.int_eq, v2.int_eq, v3.int_eq] at hmap
      exact ⟨_, w, ρ, .inl (hex _ _ hmap _ (by simp [List.foldlM, hf])), h, Val.mkInt _ _ _⟩
    · exact ho.elim
  refine ⟨fun hcal => key .max mx mxS Builtin.max2 (fun k x k' y => rfl) (fun x y => by simp only [Builtin.max2, Op.stringOp, asBool, mxS, strLt, pure_bind]; by_cases hb : Op.bytesLess x.toList y.toList = true <;> simp [hb]) hcal (fun x r hm u hu => ?_), fun hcal => key .min mn mnS Builtin.min2 (fun k x k' y => rfl) (fun x y => by simp only [Builtin.min2, Op.stringOp, asBool, mnS, strLt, strEq, pure_bind]; by_cases hb : Op.bytesLess x.toList y.toList = true <;> simp [hb]) hcal (fun x r hm u hu => ?_)⟩
  · simp [execOp, hop, resolve, hcal, invoke, builtin, Builtin.max_, hm, hu]
  · simp [execOp, hop, resolve, hcal, invoke, builtin, Builtin.min_, hm, hu]
end
end Go.Ev

/- '==' of structs and arrays. -/
set_option linter.unusedVariables false
set_option linter.unusedSimpArgs false
namespace Go.Ev
open Go
section
variable {P : Program} {C : Cx} {W0 : World} {F0 : Base} {ρ : Nat → Option Loc} {s s' : St} {a : Act} {w : World}

theorem sizeB_spec {T n : Nat} (h : sizeB P T n = true) : ∃ i, P.info? T = some i ∧ i.size = n := by
  unfold sizeB at h
  split at h
  · rename_i i hi; exact ⟨i, hi, Nat.eq_of_beq_eq_true h⟩
  · cases h

def Ty.isAgg : Ty → Bool
  | .pair _ _ => true
  | .nl => true
  | .arr _ _ => true
  | _ => false
/-- a plain value as one value -/
def IsVal (t : Ty) (cs : List Value) (u : Value) : Prop := if t.isAgg then u = .agg cs.toArray else cs = [u]

theorem eqG_agg {t : Ty} {T : TypeId} (h : eqG P t (.inl T) = true) : ∃ d, P.underlying T = some d ∧ descAgg d = t.isAgg := by
  cases t <;> simp only [eqG] at h
  case sl => cases h
  case nl => cases h
  all_goals
    split at h
    · rename_i hu; exact ⟨_, hu, rfl⟩
    · cases h

theorem run_part_val {F : Nat → Prop} {t : Ty} {T : TypeId} (hg : eqG P t (.inl T) = true) (hs : sizeB P T t.size = true) {xs : Array Value} {off : Nat} {x : t.den} (hf : off + t.size ≤ xs.size) (hp : Pu w F t x ((xs.toList.drop off).take t.size)) :
    ∃ u, (part T xs off).run P w = .ok u w ∧ IsVal t ((xs.toList.drop off).take t.size) u := by
  obtain ⟨d, hd, hag⟩ := eqG_agg hg
  obtain ⟨i, hi, hsz⟩ := sizeB_spec hs
  by_cases e : t.isAgg = true
  · refine ⟨.agg (xs.extract off (off + i.size)), ?_, ?_⟩
    · simp [part, run_isAgg hd, hag, e, run_sizeOf hi]
    · unfold IsVal
      rw [if_pos e, hsz]
      congr 1
      apply Array.ext'
      simp [Array.toList_extract, List.extract_eq_take_drop]
  · have e' : t.isAgg = false := by simpa using e
    have h1 : t.size = 1 := by cases t <;> simp_all [Ty.isAgg, Ty.size]
    rw [h1] at hf
    have hlt : off < xs.size := by omega
    refine ⟨xs[off], ?_, ?_⟩
    · simp [part, run_isAgg hd, hag, e', hlt]
    · unfold IsVal
      rw [if_neg e, h1, List.take_one]
      simp [hlt]

theorem run_eqG {F : Nat → Prop} : ∀ {t : Ty},
    (∀ {T : TypeId} {d : Nat} {x y : t.den} {cs ds : List Value} {u v : Value} {w : World}, eqG P t (.inl T) = true → t.height ≤ d → Pu w F t x cs → Pu w F t y ds → IsVal t cs u → IsVal t ds v → (Op.equalIn d T u v).run P w = .ok (Ty.beq t x y) w) ∧
    (∀ {fs : List Field} {off d : Nat} {x y : t.den} {xs ys : Array Value} {w : World}, eqG P t (.inr (fs, off)) = true → t.height ≤ d + 1 → off + t.size ≤ xs.size → off + t.size ≤ ys.size → Pu w F t x ((xs.toList.drop off).take t.size) → Pu w F t y ((ys.toList.drop off).take t.size) →
      (Op.eqFields d xs ys fs).run P w = .ok (Ty.beq t x y) w) := by
  intro t
  induction t with
  | int k =>
    refine ⟨fun {T d x y cs ds u v w} hg hd hx hy hu hv => ?_, fun hg => by simp [eqG] at hg⟩
    simp only [IsVal, Ty.isAgg, Bool.false_eq_true, if_false] at hu hv
    simp only [Pu] at hx hy
    subst hx hy
    simp at hu hv
    subst hu hv
    simp only [eqG] at hg
    split at hg
    · rename_i k' hk
      obtain ⟨d, rfl⟩ : ∃ m, d = m + 1 := ⟨d - 1, by simp [Ty.height] at hd; omega⟩
      exact run_equalIn_int w d _ k k' _ _ hk
    · cases hg
  | bool =>
    refine ⟨fun {T d x y cs ds u v w} hg hd hx hy hu hv => ?_, fun hg => by simp [eqG] at hg⟩
    simp only [IsVal, Ty.isAgg, Bool.false_eq_true, if_false] at hu hv
    simp only [Pu] at hx hy
    subst hx hy
    simp at hu hv
    subst hu hv
    simp only [eqG] at hg
    split at hg
    · rename_i hk
      obtain ⟨d, rfl⟩ : ∃ m, d = m + 1 := ⟨d - 1, by simp [Ty.height] at hd; omega⟩
      exact run_equalIn_bool' w d _ _ _ hk
    · cases hg
  | str =>
    refine ⟨fun {T d x y cs ds u v w} hg hd hx hy hu hv => ?_, fun hg => by simp [eqG] at hg⟩
    simp only [IsVal, Ty.isAgg, Bool.false_eq_true, if_false] at hu hv
    simp only [Pu] at hx hy
    subst hx hy
    simp at hu hv
    subst hu hv
    simp only [eqG] at hg
    split at hg
    · rename_i hk
      obtain ⟨d, rfl⟩ : ∃ m, d = m + 1 := ⟨d - 1, by simp [Ty.height] at hd; omega⟩
      exact run_equalIn_string w d _ _ _ hk
    · cases hg
  | nl =>
    refine ⟨fun hg => by simp [eqG] at hg, fun {fs off d x y xs ys w} hg _ _ _ _ _ => ?_⟩
    cases fs with
    | nil => rfl
    | cons f r => simp [eqG] at hg
  | sl t ih => exact ⟨fun hg => by simp [eqG] at hg, fun hg => by simp [eqG] at hg⟩
  | pair A B iha ihb =>
    have fieldsStep : ∀ {f : Field} {r : List Field} {off d : Nat} {x y : A.den × B.den} {xs ys : Array Value} {w : World}, f.name ≠ "_" → f.offset = off → sizeB P f.type A.size = true → eqG P A (.inl f.type) = true → eqG P B (.inr (r, off + A.size)) = true →
        A.height ≤ d → B.height ≤ d + 1 → off + (A.size + B.size) ≤ xs.size → off + (A.size + B.size) ≤ ys.size → Pu w F (.pair A B) x ((xs.toList.drop off).take (A.size + B.size)) → Pu w F (.pair A B) y ((ys.toList.drop off).take (A.size + B.size)) →
        (Op.eqFields d xs ys (f :: r)).run P w = .ok (Ty.beq A x.1 y.1 && Ty.beq B x.2 y.2) w := by
      intro f r off d x y xs ys w hn ho hs ha hb hda hdb hfx hfy hx hy
      have x1 := hx.1
      have x2 := hx.2
      have y1 := hy.1
      have y2 := hy.2
      rw [List.take_take, Nat.min_eq_left (by omega)] at x1 y1
      rw [List.drop_take, List.drop_drop, show A.size + B.size - A.size = B.size by omega] at x2 y2
      obtain ⟨u, hu, hu'⟩ := run_part_val (w := w) ha hs (xs := xs) (off := off) (by omega) x1
      obtain ⟨v, hv, hv'⟩ := run_part_val (w := w) ha hs (xs := ys) (off := off) (by omega) y1
      have he := iha.1 (d := d) ha hda x1 y1 hu' hv'
      have hr := ihb.2 (d := d) (xs := xs) (ys := ys) (w := w) hb hdb (by omega) (by omega) x2 y2
      simp only [Op.eqFields]
      rw [if_pos hn]
      simp only [Sem.run_bind, ho, hu, hv, he, Result.andThen_ok]
      cases Ty.beq A x.1 y.1
      · simp
      · simp [hr]
    refine ⟨fun {T d x y cs ds u v w} hg hd hx hy hu hv => ?_, fun {fs off d x y xs ys w} hg hd hfx hfy hx hy => ?_⟩
    · simp only [eqG] at hg
      split at hg
      · rename_i fs hfs
        simp only [Bool.and_eq_true, Bool.not_eq_true'] at hg
        obtain ⟨hst, hg⟩ := hg
        split at hg
        · rename_i f r hfr
          simp only [Bool.and_eq_true, decide_eq_true_eq] at hg
          obtain ⟨⟨⟨⟨g1, g2⟩, g3⟩, g4⟩, g5⟩ := hg
          simp only [IsVal, Ty.isAgg, if_true] at hu hv
          subst hu hv
          have hl1 := hx.len
          have hl2 := hy.len
          simp only [Ty.size] at hl1 hl2
          simp only [Ty.height] at hd
          obtain ⟨d, rfl⟩ : ∃ m, d = m + 1 := ⟨d - 1, by omega⟩
          have hfo : P.fieldsOf T = fs := by unfold Program.fieldsOf; rw [hfs]
          rw [run_equalIn_struct w d T _ _ (by rw [hfo]; exact hfs) hst, hfo, hfr]
          have := fieldsStep (xs := cs.toArray) (ys := ds.toArray) (x := x) (y := y) (w := w) (d := d) (off := 0) (f := f) (r := r) g1 (Nat.eq_of_beq_eq_true g2) g3 g4 (by rw [Nat.zero_add]; exact g5) (by omega) (by omega) (by simp; omega) (by simp; omega)
            (by rw [List.drop_zero, List.take_of_length_le (by simp; omega)]; exact hx) (by rw [List.drop_zero, List.take_of_length_le (by simp; omega)]; exact hy)
          exact this
        · cases hg
      · cases hg
    · cases fs with
      | nil => simp [eqG] at hg
      | cons f r =>
        simp only [eqG, Bool.and_eq_true, decide_eq_true_eq] at hg
        obtain ⟨⟨⟨⟨g1, g2⟩, g3⟩, g4⟩, g5⟩ := hg
        simp only [Ty.height] at hd
        exact fieldsStep g1 (Nat.eq_of_beq_eq_true g2) g3 g4 g5 (by omega) (by omega) hfx hfy hx hy
  | arr n t ih =>
    refine ⟨fun {T d x y cs ds u v w} hg hd hx hy hu hv => ?_, fun hg => by simp [eqG] at hg⟩
    simp only [eqG] at hg
    split at hg
    · rename_i m e hm
      simp only [Bool.and_eq_true] at hg
      obtain ⟨⟨g1, g2⟩, g3⟩ := hg
      have g1 := Nat.eq_of_beq_eq_true g1
      subst g1
      obtain ⟨i, hi, hsz⟩ := sizeB_spec g2
      simp only [IsVal, Ty.isAgg, if_true] at hu hv
      subst hu hv
      simp only [Ty.height] at hd
      obtain ⟨d, rfl⟩ : ∃ k, d = k + 1 := ⟨d - 1, by omega⟩
      rw [run_equalIn_array w d _ _ hm hi]
      have hcell : P.cellsOf e = t.size := by unfold Program.cellsOf; rw [hi]; simp [hsz]
      rw [hcell]
      have key : ∀ (is : List Nat), (∀ j ∈ is, j < m) → (Op.eqItems d e t.size cs.toArray ds.toArray is).run P w = .ok (is.all fun j => Ty.beq t (x.getD j t.dflt) (y.getD j t.dflt)) w := by
        intro is
        induction is with
        | nil => intro _; simp [Op.eqItems]
        | cons j is ihj =>
          intro hj
          have hjm := hj j (by simp)
          have hle := mul_succ_le (k := t.size) hjm
          have hl1 : cs.length = m * t.size := hx.2.1
          have hl2 : ds.length = m * t.size := hy.2.1
          obtain ⟨u, hu, hu'⟩ := run_part_val (w := w) g3 g2 (xs := cs.toArray) (off := j * t.size) (by simp; omega) (hx.2.2 j hjm)
          obtain ⟨v, hv, hv'⟩ := run_part_val (w := w) g3 g2 (xs := ds.toArray) (off := j * t.size) (by simp; omega) (hy.2.2 j hjm)
          have he := ih.1 (d := d) g3 (by omega) (hx.2.2 j hjm) (hy.2.2 j hjm) hu' hv'
          have hr := ihj fun q hq => hj q (by simp [hq])
          simp only [Op.eqItems, Sem.run_bind, hu, hv, he, Result.andThen_ok, List.all_cons]
          cases Ty.beq t (x.getD j t.dflt) (y.getD j t.dflt)
          · simp
          · simp [hr]
      exact key (List.range m) fun j hj => List.mem_range.1 hj
    · cases hg

theorem give_agg (hD : DOk P C) (h : Rep W0 F0 ρ s a w) {o : Oper} {op : BinOp} {T T' : Nat} {x y : Operand} (hop : o.op = .binOp op T x y T') {av bv v : AV} (h1 : Val ⟨w, s.o, ρ⟩ av (a.eval x)) (h2 : Val ⟨w, s.o, ρ⟩ bv (a.eval y)) {f : Bool → Bool}
    (hf : (op = .eql ∧ f = id) ∨ (op = .neq ∧ f = not)) (ho : (aggEq (C.D T) av bv fun r => .ret (.bool (f r))).Out s v s') : Gives P W0 F0 o a w v s' := by
  unfold aggEq at ho
  split at ho
  · rename_i t ht
    obtain ⟨hb, ho⟩ := out_bif ho
    simp only [Bool.and_eq_true] at hb
    obtain ⟨⟨b1, b2⟩, b3⟩ := hb
    split at ho
    · rename_i xv hxv
      split at ho
      · rename_i yv hyv
        obtain ⟨rfl, rfl⟩ := ho
        rcases hD T with e | tk
        · rw [e] at ht; cases ht
        obtain ⟨tk⟩ := tk
        obtain ⟨e1, e2, e3⟩ := tk.eq t ht b1
        have nb : ∀ {c : AV}, c.agg = true → c.sh ≠ .bad ∧ ∀ t xs, c ≠ .bk t xs := by
          intro c hc
          cases c <;> simp_all [AV.agg, AV.sh]
        obtain ⟨c1, d1⟩ := h1.cells (nb b2).1 (nb b2).2
        obtain ⟨c2, d2⟩ := h2.cells (nb b3).1 (nb b3).2
        obtain ⟨cs, hu⟩ := d1 b2
        obtain ⟨ds, hv⟩ := d2 b3
        rw [hu] at c1
        rw [hv] at c2
        simp only [Value.cells] at c1 c2
        obtain ⟨p1, q1⟩ := pu_ofAV hxv c1
        obtain ⟨p2, q2⟩ := pu_ofAV hyv c2
        have hta : t.isAgg = true := by
          cases t <;> simp_all [Ty.isAgg, ofAV] <;> cases av <;> simp_all [ofAV, AV.agg]
        have hr := (run_eqG (P := P) (F := Env.F ⟨w, s'.o, ρ⟩) (t := t)).1 (d := 10000) (w := w) e1 (by omega) p1 p2 (u := .agg cs) (v := .agg ds) (by unfold IsVal; rw [if_pos hta]) (by unfold IsVal; rw [if_pos hta])
        rcases hf with ⟨rfl, rfl⟩ | ⟨rfl, rfl⟩
        · exact ⟨_, w, ρ, .inl (by simp only [execOp, hop, hu, hv]; simp [run_eqGuard_agg _ _ _ _ _ _ _ e2, run_eql_struct, hr]), h, Val.mkBool _ _⟩
        · exact ⟨_, w, ρ, .inl (by simp only [execOp, hop, hu, hv]; simp [run_eqGuard_agg _ _ _ _ _ _ _ e2, run_neq_struct, hr]), h, Val.mkBool _ _⟩
      · exact ho.elim
    · exact ho.elim
  · exact ho.elim

theorem run_equal_sl {T e : TypeId} (hd : P.underlying T = some (.slice e)) (x : Option Addr) (n c : Nat) :
    (Op.equal T (.slice x n c) (.slice none 0 0)).run P w = .ok x.isNone w := by
  unfold Op.equal
  show (Op.equalIn (9999 + 1) T (.slice x n c) (.slice none 0 0)).run P w = _
  unfold Op.equalIn
  simp only [Sem.run_bind, run_underlying hd, Result.andThen_ok]
  cases x <;> rfl
theorem run_eqGuard_sl (op : BinOp) (t : TypeId) (x y : Operand) (a b : Option Addr) (n c n' c' : Nat) : (eqGuard op t x y (.slice a n c) (.slice b n' c')).run P w = .ok () w := by
  cases op <;> simp [eqGuard]
theorem give_slnil (hD : DOk P C) (h : Rep W0 F0 ρ s a w) {o : Oper} {T T' e : Nat} {x y : Operand} {m : Option Addr} {n c : Nat} (hk : (C.D T).k = .sl e) (hx : a.eval x = .slice m n c) (hy : a.eval y = .slice none 0 0) :
    (o.op = .binOp .eql T x y T' → Gives P W0 F0 o a w (.bool m.isNone) s) ∧ (o.op = .binOp .neq T x y T' → Gives P W0 F0 o a w (.bool (!m.isNone)) s) := by
  obtain ⟨d, hd, hkd⟩ := und hD hk (by simp)
  rw [kindB_sl hkd] at hd
  have he := run_equal_sl (w := w) hd m n c
  refine ⟨fun hop => ⟨_, w, ρ, .inl ?_, h, Val.mkBool _ _⟩, fun hop => ⟨_, w, ρ, .inl ?_, h, Val.mkBool _ _⟩⟩
  · simp [execOp, hop, hx, hy, run_eqGuard_sl, binOp, he]
  · simp [execOp, hop, hx, hy, run_eqGuard_sl, binOp, he]
theorem Val.val1 {E : Env} {v : AV} {u : Value} (h : Val E v u) (hs : v.sh = .leaf) : Val1 E v u := by
  rcases h with h | ⟨c, us, rfl, _⟩
  · exact h
  · simp [AV.sh] at hs
theorem give_binV (hD : DOk P C) (h : Rep W0 F0 ρ s a w) {o : Oper} {op : BinOp} {T T' : Nat} {x y : Operand} (hop : o.op = .binOp op T x y T') {v av bv : AV} (h1 : Val ⟨w, s.o, ρ⟩ av (a.eval x)) (h2 : Val ⟨w, s.o, ρ⟩ bv (a.eval y)) (ho : (binPg C op T av bv).Out s v s') : Gives P W0 F0 o a w v s' := by
  unfold binPg at ho
  split at ho
  · rename_i k m k' n
    have hx := h1.int_eq
    have hy := h2.int_eq
    split at ho
    · obtain ⟨hn, rfl, rfl⟩ := ho
      exact (give_shift h hx hy hn).1 hop
    · obtain ⟨hn, rfl, rfl⟩ := ho
      exact (give_shift h hx hy hn).2 hop
    · rename_i hs1 hs2
      obtain ⟨hkk, ho2⟩ := out_ifp ho
      subst hkk
      exact give_binI h hop hx hy hs1 hs2 ho2
  · exact give_binS h hop h1.str_eq h2.str_eq ho
  · split at ho
    · rename_i hk
      obtain ⟨rfl, rfl⟩ := ho
      exact (give_bool hD h hk h1.bool_eq h2.bool_eq).1 hop
    · rename_i hk
      obtain ⟨rfl, rfl⟩ := ho
      exact (give_bool hD h hk h1.bool_eq h2.bool_eq).2 hop
    · exact ho.elim
  · split at ho
    · rename_i hk
      obtain ⟨rfl, rfl⟩ := ho
      exact (give_ptr hD h hk h1.nilp_eq h2.nilp_eq (.inl rfl)).1 hop
    · rename_i hk
      obtain ⟨rfl, rfl⟩ := ho
      exact (give_ptr hD h hk h1.nilp_eq h2.nilp_eq (.inl rfl)).2 hop
    · exact ho.elim
  · obtain ⟨ad, hu, _⟩ := h1.ref_eq
    split at ho
    · rename_i hk
      obtain ⟨rfl, rfl⟩ := ho
      exact (give_ptr hD h hk hu h2.nilp_eq (.inr rfl)).1 hop
    · rename_i hk
      obtain ⟨rfl, rfl⟩ := ho
      exact (give_ptr hD h hk hu h2.nilp_eq (.inr rfl)).2 hop
    · exact ho.elim
  · obtain ⟨ad, hu, _⟩ := h2.ref_eq
    split at ho
    · rename_i hk
      obtain ⟨rfl, rfl⟩ := ho
      exact (give_ptr hD h hk h1.nilp_eq hu (.inl rfl)).1 hop
    · rename_i hk
      obtain ⟨rfl, rfl⟩ := ho
      exact (give_ptr hD h hk h1.nilp_eq hu (.inl rfl)).2 hop
    · exact ho.elim
  · split at ho
    · rename_i hk
      obtain ⟨rfl, rfl⟩ := ho
      exact (give_slnil hD h hk h1.nils_eq h2.nils_eq).1 hop
    · rename_i hk
      obtain ⟨rfl, rfl⟩ := ho
      exact (give_slnil hD h hk h1.nils_eq h2.nils_eq).2 hop
    · exact ho.elim
  · obtain ⟨ad, cap, e, _, hc⟩ := h1.lst_eq
    simp only [List.cons.injEq, and_true] at e
    split at ho
    · rename_i hk
      obtain ⟨hn, rfl, rfl⟩ := ho
      rcases hc with rfl | ⟨b, off, cells, T, fr, rfl, _⟩
      · exact absurd hn (by simp)
      · exact (give_slnil hD h hk e h2.nils_eq).1 hop
    · rename_i hk
      obtain ⟨hn, rfl, rfl⟩ := ho
      rcases hc with rfl | ⟨b, off, cells, T, fr, rfl, _⟩
      · exact absurd hn (by simp)
      · exact (give_slnil hD h hk e h2.nils_eq).2 hop
    · exact ho.elim
  · obtain ⟨c, hc, hd, ho⟩ := ho
    dsimp only at ho
    split at ho
    · rename_i hk
      obtain ⟨hn, rfl, rfl⟩ := ho
      obtain ⟨ad, cap, e, _, hf, _⟩ := h.full h1.full_eq hc
      rcases hf with ⟨_, rfl⟩ | ⟨l, cells, T, fr, cs, _, rfl, _⟩
      · exact absurd hn (by simp)
      · exact (give_slnil hD h hk e h2.nils_eq).1 hop
    · rename_i hk
      obtain ⟨hn, rfl, rfl⟩ := ho
      obtain ⟨ad, cap, e, _, hf, _⟩ := h.full h1.full_eq hc
      rcases hf with ⟨_, rfl⟩ | ⟨l, cells, T, fr, cs, _, rfl, _⟩
      · exact absurd hn (by simp)
      · exact (give_slnil hD h hk e h2.nils_eq).2 hop
    · exact ho.elim
  · split at ho
    · exact give_agg hD h hop h1 h2 (f := id) (.inl ⟨rfl, rfl⟩) ho
    · exact give_agg hD h hop h1 h2 (f := not) (.inr ⟨rfl, rfl⟩) ho
    · exact ho.elim

theorem kindB_if {d : TypeDesc} (h : kindB .iface d = true) : ∃ ms, d = .interface ms := by
  cases d <;> simp_all [kindB]
theorem kindB_conc {k : TK} {d : TypeDesc} (h : kindB k d = true) (hk : k.conc = true) : ∀ ms, d ≠ .interface ms := by
  cases k <;> cases d <;> simp_all [kindB, TK.conc]
theorem run_eqGuard_if1 (op : BinOp) (t : TypeId) (x y : Operand) (T : Nat) (u : Value) : (eqGuard op t x y (.iface T u) .nilIface).run P w = .ok () w := by
  cases op <;> simp [eqGuard]
theorem run_eqGuard_if2 (op : BinOp) (t : TypeId) (x y : Operand) (T : Nat) (u : Value) : (eqGuard op t x y .nilIface (.iface T u)).run P w = .ok () w := by
  cases op <;> simp [eqGuard]
theorem run_eqGuard_if0 (op : BinOp) (t : TypeId) (x y : Operand) (h : (isConst x || isConst y) = true) : (eqGuard op t x y .nilIface .nilIface).run P w = .ok () w := by
  cases x <;> cases y <;> cases op <;> simp_all [eqGuard, isConst]
theorem run_equal_if {T : TypeId} {ms} (hd : P.underlying T = some (.interface ms)) {p q : Value} {b : Bool} (hpq : (p = .nilIface ∧ q = .nilIface ∧ b = true) ∨ (∃ S u, p = .iface S u ∧ q = .nilIface ∧ b = false) ∨ (∃ S u, p = .nilIface ∧ q = .iface S u ∧ b = false)) :
    (Op.equal T p q).run P w = .ok b w := by
  unfold Op.equal
  show (Op.equalIn (9999 + 1) T p q).run P w = _
  unfold Op.equalIn
  simp only [Sem.run_bind, run_underlying hd, Result.andThen_ok]
  rcases hpq with ⟨rfl, rfl, rfl⟩ | ⟨S, u, rfl, rfl, rfl⟩ | ⟨S, u, rfl, rfl, rfl⟩ <;> rfl
theorem give_ifq (hD : DOk P C) (h : Rep W0 F0 ρ s a w) {o : Oper} {op : BinOp} {T T' : Nat} {x y : Operand} (hop : o.op = .binOp op T x y T') {r : Bool} {v : AV}
    (hpq : (a.eval x = .nilIface ∧ a.eval y = .nilIface ∧ r = true) ∨ (∃ S u, a.eval x = .iface S u ∧ a.eval y = .nilIface ∧ r = false) ∨ (∃ S u, a.eval x = .nilIface ∧ a.eval y = .iface S u ∧ r = false))
    (hg : (eqGuard op T x y (a.eval x) (a.eval y)).run P w = .ok () w) (ho : (ifaceEq (C.D T).k op r).Out s v s') : Gives P W0 F0 o a w v s' := by
  unfold ifaceEq at ho
  split at ho
  · rename_i hk
    obtain ⟨rfl, rfl⟩ := ho
    obtain ⟨d, hd, hkd⟩ := und hD hk (by simp)
    obtain ⟨ms, rfl⟩ := kindB_if hkd
    have he := run_equal_if (w := w) hd hpq
    refine ⟨_, w, ρ, .inl ?_, h, Val.mkBool _ r⟩
    rcases hpq with ⟨e1, e2, _⟩ | ⟨S, u, e1, e2, _⟩ | ⟨S, u, e1, e2, _⟩ <;> rw [e1, e2] at hg he <;> simp [execOp, hop, e1, e2, hg, binOp, he]
  · rename_i hk
    obtain ⟨rfl, rfl⟩ := ho
    obtain ⟨d, hd, hkd⟩ := und hD hk (by simp)
    obtain ⟨ms, rfl⟩ := kindB_if hkd
    have he := run_equal_if (w := w) hd hpq
    refine ⟨_, w, ρ, .inl ?_, h, Val.mkBool _ (!r)⟩
    rcases hpq with ⟨e1, e2, _⟩ | ⟨S, u, e1, e2, _⟩ | ⟨S, u, e1, e2, _⟩ <;> rw [e1, e2] at hg he <;> simp [execOp, hop, e1, e2, hg, binOp, he]
  · exact ho.elim
theorem give_binQ (hD : DOk P C) (h : Rep W0 F0 ρ s a w) {o : Oper} {op : BinOp} {T T' : Nat} {x y : Operand} (hop : o.op = .binOp op T x y T') {v : AV} (ho : (rdX x fun a => rdX y fun b => binQ C op T x y a b).Out s v s') : Gives P W0 F0 o a w v s' := by
  have ho0 := ho
  obtain ⟨av, h1, ho1⟩ := out_rdX h ho
  obtain ⟨bv, h2, ho2⟩ := out_rdX h ho1
  unfold binQ at ho2
  split at ho2
  · obtain ⟨hc, ho2⟩ := out_bif ho2
    have e1 : a.eval x = .nilIface := by simpa [Ce] using h1.ce rfl
    have e2 : a.eval y = .nilIface := by simpa [Ce] using h2.ce rfl
    exact give_ifq hD h hop (.inl ⟨e1, e2, rfl⟩) (by rw [e1, e2]; exact run_eqGuard_if0 _ _ _ _ hc) ho2
  · rename_i S q
    obtain ⟨u, hu, _, _⟩ := h1.ce rfl
    have e1 : a.eval x = .iface S u := by simpa using hu
    have e2 : a.eval y = .nilIface := by simpa [Ce] using h2.ce rfl
    exact give_ifq hD h hop (.inr (.inl ⟨S, u, e1, e2, rfl⟩)) (by rw [e1, e2]; exact run_eqGuard_if1 _ _ _ _ _ _) ho2
  · rename_i S q
    obtain ⟨u, hu, _, _⟩ := h2.ce rfl
    have e1 : a.eval x = .nilIface := by simpa [Ce] using h1.ce rfl
    have e2 : a.eval y = .iface S u := by simpa using hu
    exact give_ifq hD h hop (.inr (.inr ⟨S, u, e1, e2, rfl⟩)) (by rw [e1, e2]; exact run_eqGuard_if2 _ _ _ _ _ _) ho2
  · exact give_binV hD h hop h1 h2 ho2
theorem give_mkIf (hD : DOk P C) (h : Rep W0 F0 ρ s a w) {o : Oper} {T : Nat} {x : Operand} (hop : o.op = .makeInterface T x) {v : AV} (ho : (rdX x fun v => mkIf C T v).Out s v s') : Gives P W0 F0 o a w v s' := by
  obtain ⟨av, h1, ho⟩ := out_rdX h ho
  unfold mkIf at ho
  obtain ⟨hs, ho⟩ := out_ifp ho
  obtain ⟨hk, ho⟩ := out_bif ho
  obtain ⟨rfl, rfl⟩ := ho
  have hne : (C.D T).k ≠ .other := by intro e; rw [e] at hk; cases hk
  obtain ⟨d, hd, hkd⟩ := und hD rfl hne
  have hn := kindB_conc hkd hk
  refine ⟨.iface T (a.eval x), w, ρ, .inl ?_, h, Val.leaf rfl ⟨_, rfl, hs, h1.ce hs⟩⟩
  simp only [execOp, hop, Instr.makeInterface, Sem.run_bind, run_underlying hd, Result.andThen_ok]
  cases d <;> first | rfl | exact absurd rfl (hn _)
theorem give_as (hD : DOk P C) (h : Rep W0 F0 ρ s a w) {o : Oper} {T0 T : Nat} {ok : Bool} {x : Operand} (hop : o.op = .typeAssert x T0 T ok) {v : AV} (ho : (rdX x fun v => asPg C T ok v).Out s v s') : Gives P W0 F0 o a w v s' := by
  obtain ⟨av, h1, ho⟩ := out_rdX h ho
  unfold asPg at ho
  split at ho
  · rename_i S u
    obtain ⟨hk, ho2⟩ := out_bif ho
    clear ho
    simp only [Bool.and_eq_true] at hk
    obtain ⟨hk, e⟩ := hk
    have e := Nat.eq_of_beq_eq_true e
    subst e
    have hne : (C.D S).k ≠ .other := by intro e; rw [e] at hk; cases hk
    obtain ⟨d, hd, hkd⟩ := und hD rfl hne
    have hn := kindB_conc hkd hk
    obtain ⟨u0, hu, hs, hce⟩ := h1.ce rfl
    have e1 : a.eval x = .iface S u0 := by simpa using hu
    cases ok with
    | true =>
      obtain ⟨rfl, rfl⟩ := ho2
      refine ⟨.tuple #[u0, .bool true], w, ρ, .inl ?_, h, .inr ⟨_, _, rfl, rfl, u0, [.bool true], rfl, (Val.leaf hs hce).val1 hs, .bool true, [], rfl, (Val.mkBool _ true).val1 rfl, rfl⟩⟩
      simp only [execOp, hop, e1, Instr.typeAssert, Sem.run_bind, run_underlying hd, Result.andThen_ok]
      cases d <;> first | (simp; done) | exact absurd rfl (hn _) | simp_all
    | false =>
      obtain ⟨rfl, rfl⟩ := ho2
      refine ⟨u0, w, ρ, .inl ?_, h, Val.leaf hs hce⟩
      simp only [execOp, hop, e1, Instr.typeAssert, Sem.run_bind, run_underlying hd, Result.andThen_ok]
      cases d <;> first | (simp; done) | exact absurd rfl (hn _) | simp_all
  · exact ho.elim
theorem lenOk_spec {k : TK} {v : AV} (h : lenOk k v = true) : (∀ b, v = .str b → k = .str) ∧ ((∀ b, v ≠ .str b) → ∃ e, k = .sl e) ∧ (k = .str ∨ ∃ e, k = .sl e) := by
  cases v <;> cases k <;> simp_all [lenOk]

/-- every operation but a call of a function -/
theorem give_op (hD : DOk P C) (hDs : ∀ T e, ((C.D T).k = .sl e ∨ ∃ m, (C.D T).k = .arr m e) → (C.D e).k ≠ .other) (h : Rep W0 F0 ρ s a w) {o : Oper} (hc : ∀ c f, o.op = .call c → c.callee ≠ .value (.func f)) (hi : ∀ c r n, o.op = .call c → c.callee ≠ .invoke r n) {v : AV} (ho : (opPg C o).Out s v s') : Gives P W0 F0 o a w v s' := by
  unfold opPg at ho
  split at ho
  · rename_i x hop; exact give_move h (.inl hop) ho
  · rename_i x hop; exact give_move h (.inr hop) ho
  · rename_i c x y hop
    split at ho
    · exact give_pick h hop ho
    · exact ho.elim
  · rename_i T hop
    split at ho
    · obtain ⟨hd, ho⟩ := out_nif ho
      exact give_alloc hD h hop hd ho
    · exact ho.elim
  · rename_i T x hop
    split at ho
    · exact give_box h hop ho
    · exact ho.elim
  · rename_i T parts hop; exact give_build hD h hop ho
  · rename_i T len parts hop
    split at ho
    · exact give_bsl hD h hop ho
    · exact ho.elim
  · rename_i T x hop; exact give_load hD h hop ho
  · rename_i T x y hop
    split at ho
    · exact give_store hD h hop ho
    · exact ho.elim
  · rename_i x hop; exact give_nilCheck h hop ho
  · rename_i op T x y T' hop; exact give_binQ hD h hop ho
  · rename_i T x hop; exact give_mkIf hD h hop ho
  · rename_i x T0 T ok hop; exact give_as hD h hop ho
  · rename_i op T x hop; exact give_unOp h hop ho
  · rename_i src dst x hop; exact give_conv hD h hop ho
  · rename_i T l c hop
    split at ho
    · exact give_make hD h hop ho
    · exact ho.elim
  · rename_i T x lo hi hop; exact give_slice hD hDs h hop ho
  · rename_i T x f hop; exact give_fieldAddr hD h hop ho
  · rename_i T x f hop; exact give_field hD h hop ho
  · rename_i T x i hop; exact give_index hD hDs h hop ho
  · rename_i T x i hop; exact give_el hD h hop ho
  · rename_i x i hop; exact give_extract h hop ho
  · rename_i c hop
    split at ho
    · rename_i b hcal
      obtain ⟨vs, hvs, ho⟩ := out_rdXs h ho
      have key : ∀ d, (builtPg C b c.argTypes.toList vs d).Out s v s' → Gives P W0 F0 o a w v s' := by
        intro d ho
        generalize hT : c.argTypes.toList = Ts at ho
        unfold builtPg at ho
        have one : ∀ {v1 : AV}, vs = [v1] → ∃ x, c.args = #[x] ∧ c.args.toList = [x] ∧ Val ⟨w, s.o, ρ⟩ v1 (a.eval x) := by
          intro v1 e
          rw [e] at hvs
          obtain ⟨u, us, e1, hv1, e2⟩ := hvs
          have e2 : us = [] := e2
          rw [e2] at e1
          obtain ⟨x, hx, hxu⟩ := List.map_eq_singleton_iff.1 e1
          refine ⟨x, by rw [← Array.toArray_toList (xs := c.args), hx], hx, by rw [hxu]; exact hv1⟩
        have two : ∀ {v1 v2 : AV}, vs = [v1, v2] → ∃ x y, c.args = #[x, y] ∧ Val ⟨w, s.o, ρ⟩ v1 (a.eval x) ∧ Val ⟨w, s.o, ρ⟩ v2 (a.eval y) := by
          intro v1 v2 e
          rw [e] at hvs
          obtain ⟨u, us, e1, hv1, u2, us2, e2, hv2, e3⟩ := hvs
          have e3 : us2 = [] := e3
          rw [e3] at e2
          rw [e2] at e1
          match hl : c.args.toList, e1 with
          | [x, y], e1 =>
            simp at e1
            exact ⟨x, y, by rw [← Array.toArray_toList (xs := c.args), hl], by rw [e1.1]; exact hv1, by rw [e1.2]; exact hv2⟩
        have tys : ∀ {l : List Nat}, c.argTypes.toList = l → c.argTypes = l.toArray := by
          intro l e; rw [← e]
        split at ho
        · rename_i T v1
          obtain ⟨hk, ho2⟩ := out_bif ho
          obtain ⟨x, _, e2, hv⟩ := one rfl
          obtain ⟨l1, l2, l3⟩ := lenOk_spec hk
          exact give_len hD h hop hcal e2 hv hT l3 ho2 l1 l2
        · rename_i T T2 v1 v2
          obtain ⟨hk, ho2⟩ := out_bif ho
          have hk := Nat.eq_of_beq_eq_true hk
          subst hk
          obtain ⟨x, y, e1, hv1, hv2⟩ := two rfl
          exact give_append hD h hop hcal e1 (tys hT) hv1 hv2 ho2
        · rename_i T T2 v1 v2
          obtain ⟨x, y, e1, hv1, hv2⟩ := two rfl
          exact give_copy hD h hop hcal e1 (tys hT) hv1 hv2 ho
        · rename_i T v1
          obtain ⟨x, e1, _, hv⟩ := one rfl
          exact give_clear hD h hop hcal e1 (tys hT) hv ho
        · exact (give_mnmx h hop rfl hvs).1 hcal ho
        · exact (give_mnmx h hop rfl hvs).2 hcal ho
        · exact ho.elim
      split at ho
      · exact key _ ho
      · split at ho
        · exact key _ ho
        · exact key _ ho
        · exact ho.elim
    · rename_i f hcal
      exact absurd hcal (hc c f hop)
    · rename_i r n hcal
      exact absurd hcal (hi c r n hop)
    · exact ho.elim
  · exact ho.elim
end
end Go.Ev

/- What a function is handed and gives back, in memory; how the evaluator takes it out of a state. -/
set_option linter.unusedVariables false
set_option linter.unusedSimpArgs false
namespace Go.Ev
open Go

def Ty.agg : Ty → Bool
  | .nl => true
  | .pair _ _ => true
  | .arr _ _ => true
  | _ => false
def SP.agg : SP → Bool
  | .pure t => t.agg
  | .nl => true
  | .cons _ _ => true
  | _ => false
def SP.size : SP → Nat
  | .pure t => t.size
  | .nl => 0
  | .cons a b => a.size + b.size
  | _ => 1

/-- what a pointer leads to -/
def Behind (w : World) (R : List Value → List Nat → Prop) (u : Value) (bs : List Nat) : Prop :=
  ∃ b off cells T fr ds bs', u = .pointer (some ⟨b, off, none⟩) ∧ bs = b :: bs' ∧ w.heap[b]? = some (.cells cells T fr) ∧ off + ds.length ≤ cells.size ∧ seg cells off ds.length = ds ∧
    Unfrozen fr off cells.size ∧ R ds bs'

/-- cells that hold a value of a specification; its blocks -/
def Tr (w : World) (F : Nat → Prop) : (s : SP) → s.den → List Value → List Nat → Prop
  | .pure t, x, cs, bs => Pu w F t x cs ∧ bs = []
  | .own t, xs, cs, bs => ∃ a cap, cs = [.slice a (List.length xs) cap] ∧ List.length xs ≤ cap ∧ ((cap = 0 ∧ bs = []) ∨ ∃ b off cells T fr, a = some ⟨b, off, none⟩ ∧ bs = [b] ∧ w.heap[b]? = some (.cells cells T fr) ∧
      off + cap * t.size ≤ cells.size ∧ Unfrozen fr off cells.size ∧ Pu w F (.arr (List.length xs) t) xs (seg cells off (List.length xs * t.size)))
  | .rptr t, x, cs, bs => bs = [] ∧ ∃ b off cells T fr, cs = [.pointer (some ⟨b, off, none⟩)] ∧ ¬ F b ∧ w.heap[b]? = some (.cells cells T fr) ∧ off + t.size ≤ cells.size ∧ Pu w F t x (seg cells off t.size)
  | .ptr s, x, cs, bs => ∃ u, cs = [u] ∧ Behind w (Tr w F s x) u bs
  | .nptr s, x, cs, bs => match (x : Option s.den) with
    | none => cs = [.pointer none] ∧ bs = []
    | some y => ∃ u, cs = [u] ∧ Behind w (Tr w F s y) u bs
  | .nl, _, cs, bs => cs = [] ∧ bs = []
  | .cons a b, x, cs, bs => ∃ bs1 bs2, bs = bs1 ++ bs2 ∧ Tr w F a x.1 (cs.take a.size) bs1 ∧ Tr w F b x.2 (cs.drop a.size) bs2

/-- the same of a value -/
def VTr (w : World) (F : Nat → Prop) (s : SP) (x : s.den) (u : Value) (bs : List Nat) : Prop :=
  (s.agg = true ∧ ∃ cs : List Value, u = .agg cs.toArray ∧ Tr w F s x cs bs) ∨ (s.agg = false ∧ Tr w F s x [u] bs)

/-- a list of values -/
def Args (w : World) (F : Nat → Prop) : (s : SP) → s.den → List Value → List Nat → Prop
  | .nl, _, us, bs => us = [] ∧ bs = []
  | .cons a b, x, us, bs => ∃ u r bs1 bs2, us = u :: r ∧ bs = bs1 ++ bs2 ∧ VTr w F a x.1 u bs1 ∧ Args w F b x.2 r bs2
  | _, _, _, _ => False

/-- what lies behind a list of values at the end -/
def Outs (w : World) (F : Nat → Prop) : (s : SP) → s.odn → List Value → List Nat → Prop
  | .pure _, _, us, bs => bs = []
  | .own _, _, us, bs => bs = []
  | .rptr _, _, us, bs => bs = []
  | .ptr s, x, us, bs => ∃ u, us = [u] ∧ Behind w (Tr w F s x) u bs
  | .nptr s, x, us, bs => match (x : Option s.den) with
    | none => us = [.pointer none] ∧ bs = []
    | some y => ∃ u, us = [u] ∧ Behind w (Tr w F s y) u bs
  | .nl, _, us, bs => bs = []
  | .cons a b, x, us, bs => ∃ u r bs1 bs2, us = u :: r ∧ bs = bs1 ++ bs2 ∧ Outs w F a x.1 [u] bs1 ∧ Outs w F b x.2 r bs2

theorem shT_agg : ∀ {t : Ty} {v : AV}, v.sh = shT t → (∀ t xs, v ≠ .bk t xs) → v.agg = t.agg := by
  intro t v h hb
  cases t <;> cases v <;> simp [AV.sh, shT] at h <;> first | rfl | exact absurd rfl (hb _ _)

section
variable {P : Program} {C : Cx} {W0 : World} {F0 : Base} {ρ : Nat → Option Loc} {s s' : St} {a : Act} {w : World}

def blk (ρ : Nat → Option Loc) (own : List Nat) : List Nat := own.filterMap fun o => (ρ o).map (·.b)

theorem blk_append (l m : List Nat) : blk ρ (l ++ m) = blk ρ l ++ blk ρ m := List.filterMap_append
theorem blk_cons {o : Nat} {l : Loc} (h : ρ o = some l) (m : List Nat) : blk ρ (o :: m) = l.b :: blk ρ m := by simp [blk, h]

theorem exP_notbk {α : Type} {t : Ty} {v : AV} {k : t.den → List Nat → Pg α} {r : α} (h : (exP t v k).Out s r s') : ∀ t xs, v ≠ .bk t xs := by
  intro t' xs e
  subst e
  cases t <;> simp [exP, ofP, ofAV, Pg.Out] at h

theorem exP_live {α : Type} {t : Ty} {v : AV} {k : t.den → List Nat → Pg α} {r : α} (h : (exP t v k).Out s r s') : v.sh ≠ .bad := by
  intro e
  cases v <;> simp [AV.sh] at e <;> cases t <;> simp [exP, ofP, ofAV, Pg.Out] at h
theorem exS_notbk {α : Type} {sp : SP} {v : AV} {k : sp.den → List Nat → List Nat → Pg α} {r : α} (h : (exS sp v k).Out s r s') : (∀ t xs, v ≠ .bk t xs) ∧ v.sh ≠ .bad := by
  cases sp with
  | pure t => simp only [exS] at h; exact ⟨exP_notbk h, exP_live h⟩
  | own t => refine ⟨fun t xs e => ?_, fun e => ?_⟩
             · subst e; exact h.elim
             · cases v <;> simp [AV.sh] at e <;> exact h.elim
  | rptr t => refine ⟨fun t xs e => ?_, fun e => ?_⟩
              · subst e; exact h.elim
              · cases v <;> simp [AV.sh] at e <;> exact h.elim
  | ptr s => refine ⟨fun t xs e => ?_, fun e => ?_⟩
             · subst e; exact h.elim
             · cases v <;> simp [AV.sh] at e <;> exact h.elim
  | nptr s => refine ⟨fun t xs e => ?_, fun e => ?_⟩
              · subst e; exact h.elim
              · cases v <;> simp [AV.sh] at e <;> exact h.elim
  | nl => refine ⟨fun t xs e => ?_, fun e => ?_⟩
          · subst e; exact h.elim
          · cases v <;> simp [AV.sh] at e <;> exact h.elim
  | cons a b => refine ⟨fun t xs e => ?_, fun e => ?_⟩
                · subst e; exact h.elim
                · cases v <;> simp [AV.sh] at e <;> exact h.elim

/-- an object behind a pointer to its beginning -/
theorem Rep.whole (h : Rep W0 F0 ρ s a w) {o : Nat} {c : AV} {ad : Addr} (hc : s.o o = some c) (hd : c.dead = false) (hA : AddrOf ⟨w, s.o, ρ⟩ o [] ad) :
    ∃ l cells T fr ds, ρ o = some l ∧ ad = ⟨l.b, l.off, none⟩ ∧ w.heap[l.b]? = some (.cells cells T fr) ∧ Ce ⟨w, s.o, ρ⟩ c ds ∧ l.off + ds.length ≤ cells.size ∧ seg cells l.off ds.length = ds ∧ Unfrozen fr l.off cells.size := by
  obtain ⟨c', hc', hk⟩ := hA
  have : c' = c := by
    have h' : s.o o = some c' := hc'
    rw [hc] at h'; exact (Option.some.inj h').symm
  subst this
  rcases hk with hk | ⟨l, k, e, hl, hoff, had⟩
  · exact absurd hk (AV.dead_sh hd)
  · simp only [Sh.off, Option.some.injEq, Prod.mk.injEq] at hoff
    obtain ⟨rfl, rfl⟩ := hoff
    rcases h.ob o c' hc (AV.dead_sh hd) with ⟨l', cells, T, fr, cs, g1, g2, g3, g4, g5, g6⟩ | ⟨g1, _⟩
    · have e1 : l' = l := by
        have h1 : ρ o = some l' := g1
        have h2 : ρ o = some l := hl
        rw [h1] at h2; exact Option.some.inj h2
      subst e1
      exact ⟨l', cells, T, fr, cs, g1, by simpa using had, g2, g3, g4, g5, g6⟩
    · have h1 : ρ o = none := g1
      have h2 : ρ o = some l := hl
      rw [h1] at h2; cases h2

theorem exS_out {α : Type} (h : Rep W0 F0 ρ s a w) {r : α} : ∀ {sp : SP} {v : AV} {k : sp.den → List Nat → List Nat → Pg α} {cs : List Value}, Ce ⟨w, s.o, ρ⟩ v cs → (exS sp v k).Out s r s' →
    ∃ x own ro bs, (k x own ro).Out s r s' ∧ (∀ o ∈ own, ∃ c, s.o o = some c ∧ c.sh ≠ .bad) ∧ bs.Sublist (blk ρ own) ∧ v.sh.size = sp.size ∧ v.agg = sp.agg ∧
      ∀ F, (sp.noSl = true ∨ Outside s ρ ro F) → Tr w F sp x cs bs := by
  intro sp
  have key : ∀ {sp : SP} (ih : ∀ {v : AV} {k : sp.den → List Nat → List Nat → Pg α} {cs : List Value}, Ce ⟨w, s.o, ρ⟩ v cs → (exS sp v k).Out s r s' →
      ∃ x own ro bs, (k x own ro).Out s r s' ∧ (∀ o ∈ own, ∃ c, s.o o = some c ∧ c.sh ≠ .bad) ∧ bs.Sublist (blk ρ own) ∧ v.sh.size = sp.size ∧ v.agg = sp.agg ∧ ∀ F, (sp.noSl = true ∨ Outside s ρ ro F) → Tr w F sp x cs bs)
      {o : Nat} {cs : List Value} {k : sp.den → List Nat → List Nat → Pg α} (hc : Ce ⟨w, s.o, ρ⟩ (.ref o []) cs) (ho : (Pg.rdO o fun c => exS sp c k).Out s r s'),
      ∃ x own ro bs u, (k x own ro).Out s r s' ∧ (∀ q ∈ o :: own, ∃ c, s.o q = some c ∧ c.sh ≠ .bad) ∧ bs.Sublist (blk ρ (o :: own)) ∧ cs = [u] ∧ ∀ F, (sp.noSl = true ∨ Outside s ρ ro F) → Behind w (Tr w F sp x) u bs := by
    intro sp ih o cs k hc ho
    obtain ⟨c, hcc, hd, ho⟩ := ho
    obtain ⟨ad, rfl, hA⟩ := hc
    obtain ⟨l, cells, T, fr, ds, h1, h2, h3, h4, h5, h6, h7⟩ := h.whole hcc hd hA
    obtain ⟨x, own, ro, bs, g1, g2, g3, g4, g5, g6⟩ := ih h4 ho
    refine ⟨x, own, ro, l.b :: bs, _, g1, fun q hq => ?_, by rw [blk_cons h1]; exact g3.cons_cons _, rfl, fun F hF => ⟨l.b, l.off, cells, T, fr, ds, bs, by rw [h2], rfl, h3, h5, h6, h7, g6 F hF⟩⟩
    rcases List.mem_cons.1 hq with rfl | hq
    · exact ⟨c, hcc, AV.dead_sh hd⟩
    · exact g2 q hq
  induction sp with
  | pure t =>
    intro v k cs hc ho
    simp only [exS] at ho
    obtain ⟨x, l, h1, h2, h3⟩ := exP_out h hc ho
    refine ⟨x, [], l, [], h1, by simp, List.Sublist.refl _, by rw [h2]; exact shT_size t, shT_agg h2 (exP_notbk ho), fun F hF => ⟨?_, rfl⟩⟩
    rcases hF with hF | hF
    · exact (h3 (fun _ => False) (fun b hb => hb.elim)).anywhere hF
    · exact h3 F hF
  | own t =>
    intro v k cs hc ho
    simp only [exS] at ho
    split at ho
    · rename_i o
      obtain ⟨c, hcc, hd, ho⟩ := ho
      obtain ⟨u, rfl, hv⟩ := hc
      dsimp only at ho
      split at ho
      · obtain ⟨ys, hys, ho⟩ := out_ofP ho
        obtain ⟨rfl, rfl⟩ := castL_some hys
        obtain ⟨ad, cap, hu, hcap, hh, _⟩ := h.full hv hcc
        refine ⟨_, [o], [], if cap = 0 then [] else blk ρ [o], ho, fun q hq => ?_, ?_, rfl, rfl, fun F hF => ?_⟩
        · rw [List.mem_singleton] at hq; subst hq; exact ⟨_, hcc, by simp [AV.sh]⟩
        · split
          · exact List.nil_sublist _
          · exact List.Sublist.refl _
        · refine ⟨ad, cap, by rw [hu], hcap, ?_⟩
          by_cases h0 : cap = 0
          · exact .inl ⟨h0, if_pos h0⟩
          · rcases hh with ⟨e, _⟩ | ⟨l, cells, T, fr, cs, g1, g2, g3, g4, g5, g6, g7, g8⟩
            · exact absurd e h0
            · refine .inr ⟨l.b, l.off, cells, T, fr, g2, by rw [if_neg h0, blk_cons g1]; rfl, g3, g4, g7, ?_⟩
              rw [← g8.2.1, g6]
              rcases hF with hF | hF
              · exact g8.anywhere (t := .arr _ _) hF
              · exact hF.pu g8
      · exact ho.elim
    · rename_i o off len
      obtain ⟨c, hcc, hd, ho⟩ := ho
      obtain ⟨u, rfl, hv⟩ := hc
      dsimp only at ho
      split at ho
      · rename_i t' xs
        obtain ⟨ys, hys, ho⟩ := out_ofP ho
        obtain ⟨rfl, rfl⟩ := castL_some hys
        obtain ⟨n, ad, cap, hu, hn, hcap, h0, hm, hh, _⟩ := h.view hv hcc hd rfl (.inr ⟨rfl, rfl⟩)
        have hlen : (win xs off len).length = n := by have := win_length xs (off := off) (len := len) h0 (by omega) hm; omega
        refine ⟨_, [o], [], if cap = 0 then [] else blk ρ [o], ho, fun q hq => ?_, ?_, rfl, rfl, fun F hF => ?_⟩
        · rw [List.mem_singleton] at hq; subst hq; exact ⟨_, hcc, by simp [AV.sh]⟩
        · split
          · exact List.nil_sublist _
          · exact List.Sublist.refl _
        · refine ⟨ad, cap, by rw [hu, hlen], by rw [hlen]; exact hcap, ?_⟩
          by_cases hz : cap = 0
          · exact .inl ⟨hz, if_pos hz⟩
          · rcases hh with e | ⟨l, k', cells, T, fr, cs, g1, g2, g3, g4, goff, gce, g5, g6, g7, g8, g9⟩
            · exact absurd e hz
            · simp only [Sh.off, AV.sh, Option.some.injEq, Prod.mk.injEq] at goff
              obtain ⟨rfl, _⟩ := goff
              refine .inr ⟨l.b, _, cells, T, fr, g2, by rw [if_neg hz, blk_cons g1]; rfl, g3, ?_, fun i hi hi' => g7 i (by omega) hi', ?_⟩
              · rw [Nat.add_mul] at g4; omega
              · have hw := pu_win g9 h0 hn hm
                have e1 : ((List.drop 0 cs).take (xs.length * t'.size)) = cs := by
                  rw [List.drop_zero]; exact List.take_of_length_le (by rw [gce.len]; exact Nat.le_refl _)
                rw [e1] at hw
                have hle : (off.toNat + n) * t'.size ≤ xs.length * t'.size := Nat.mul_le_mul_right t'.size (by omega)
                rw [Nat.add_mul] at hle
                have e2 : cs.length = xs.length * t'.size := gce.len
                rw [hlen, Nat.add_zero, seg_sub (n := cs.length) (by rw [e2]; exact hle), g6]
                rcases hF with hF | hF
                · exact hw.anywhere (t := .arr _ _) hF
                · exact hF.pu hw
      · exact ho.elim
    · refine ⟨_, [], [], [], ho, by simp, List.Sublist.refl _, rfl, rfl, fun F hF => ?_⟩
      have hc : cs = [.slice none 0 0] := hc
      exact ⟨none, 0, hc, Nat.le_refl _, .inl ⟨rfl, rfl⟩⟩
    · exact ho.elim
  | rptr t =>
    intro v k cs hc ho
    simp only [exS] at ho
    split at ho
    · rename_i o p
      obtain ⟨c, hcc, hd, ho⟩ := ho
      dsimp only at ho
      split at ho
      · rename_i d hat
        obtain ⟨x, hx, ho⟩ := out_ofP ho
        obtain ⟨ad, rfl, hA⟩ := hc
        obtain ⟨l, k', e, cells, T', fr, cs, g1, g2, g3, g4, g5, g6, g7, g8, g9⟩ := h.at_ref hA hcc hd
        have hce := ce_at hat g2 g5
        have hsh := at_off hat g2
        obtain ⟨hp, hsd⟩ := pu_ofAV hx hce
        have hes : e.size = t.size := by rw [← hsh, hsd, shT_size]
        rw [hes] at hp g9
        refine ⟨x, [], [o], [], ho, by simp, List.Sublist.refl _, rfl, rfl, fun F hF => ⟨rfl, l.b, l.off + k', cells, T', fr, by rw [g3], fun hb => ?_, g4, by omega, ?_⟩⟩
        · rcases hF with hF | hF
          · simp [SP.noSl] at hF
          · obtain ⟨o', c', l', f1, f2, f3, f4, f5⟩ := hF _ hb
            exact f1 (by rw [h.inj o' o c' c l' l f2 hcc f3 (AV.dead_sh hd) f4 g1 f5]; simp)
        · rw [seg_sub g9, g7]
          rcases hF with hF | hF
          · simp [SP.noSl] at hF
          · exact hF.pu hp
      · exact ho.elim
    · rename_i t' x
      obtain ⟨y, hy, ho⟩ := out_ofP ho
      have : ∃ e : t' = t, e ▸ x = y := by
        unfold castV at hy
        split at hy
        · rename_i e; subst e; exact ⟨rfl, Option.some.inj hy⟩
        · cases hy
      obtain ⟨rfl, rfl⟩ := this
      obtain ⟨ad, rfl, b, off, cells, T', fr, hx, hF', hbb, hs, hp⟩ := hc
      refine ⟨_, [], [], [], ho, by simp, List.Sublist.refl _, rfl, rfl, fun F hF => ⟨rfl, b, off, cells, T', fr, by rw [hx], fun hb => ?_, hbb, hs, ?_⟩⟩
      · rcases hF with hF | hF
        · simp [SP.noSl] at hF
        · exact hF' (hF.sub hb)
      · rcases hF with hF | hF
        · simp [SP.noSl] at hF
        · exact hF.pu hp
    · exact ho.elim
  | ptr sp ih =>
    intro v k cs hc ho
    simp only [exS] at ho
    split at ho
    · obtain ⟨x, own, ro, bs, u, g1, g2, g3, g4, g5⟩ := key ih hc ho
      exact ⟨x, _, ro, bs, g1, g2, g3, rfl, rfl, fun F hF => ⟨u, g4, g5 F hF⟩⟩
    · exact ho.elim
  | nptr sp ih =>
    intro v k cs hc ho
    simp only [exS] at ho
    split at ho
    · obtain ⟨x, own, ro, bs, u, g1, g2, g3, g4, g5⟩ := key ih hc ho
      exact ⟨some x, _, ro, bs, g1, g2, g3, rfl, rfl, fun F hF => ⟨u, g4, g5 F hF⟩⟩
    · exact ⟨none, [], [], [], ho, by simp, List.Sublist.refl _, rfl, rfl, fun F hF => ⟨hc, rfl⟩⟩
    · exact ho.elim
  | nl =>
    intro v k cs hc ho
    simp only [exS] at ho
    split at ho
    · exact ⟨(), [], [], [], ho, by simp, List.Sublist.refl _, rfl, rfl, fun F hF => ⟨hc, rfl⟩⟩
    · exact ho.elim
  | cons A B iha ihb =>
    intro v k cs hc ho
    simp only [exS] at ho
    split at ho
    · obtain ⟨x, own, ro, bs, g1, g2, g3, g4, g5, g6⟩ := iha hc.1 ho
      obtain ⟨y, own', ro', bs', f1, f2, f3, f4, f5, f6⟩ := ihb hc.2 g1
      refine ⟨(x, y), own ++ own', ro ++ ro', bs ++ bs', f1, fun q hq => ?_, by rw [blk_append]; exact g3.append f3, by simp [AV.sh, Sh.size, SP.size, g4, f4], rfl, fun F hF => ⟨bs, bs', rfl, ?_, ?_⟩⟩
      · rcases List.mem_append.1 hq with hq | hq
        · exact g2 q hq
        · exact f2 q hq
      · rw [← g4]
        refine g6 F ?_
        rcases hF with hF | hF
        · simp only [SP.noSl, Bool.and_eq_true] at hF; exact .inl hF.1
        · exact .inr (hF.mono fun o ho => List.mem_append_left _ ho)
      · rw [← g4]
        refine f6 F ?_
        rcases hF with hF | hF
        · simp only [SP.noSl, Bool.and_eq_true] at hF; exact .inl hF.2
        · exact .inr (hF.mono fun o ho => List.mem_append_right _ ho)
    · exact ho.elim

theorem exV_out {α : Type} (h : Rep W0 F0 ρ s a w) {r : α} {sp : SP} {v : AV} {k : sp.den → List Nat → List Nat → Pg α} {u : Value} (hv : Val ⟨w, s.o, ρ⟩ v u) (ho : (exS sp v k).Out s r s') :
    ∃ x own ro bs, (k x own ro).Out s r s' ∧ (∀ o ∈ own, ∃ c, s.o o = some c ∧ c.sh ≠ .bad) ∧ bs.Sublist (blk ρ own) ∧ ∀ F, (sp.noSl = true ∨ Outside s ρ ro F) → VTr w F sp x u bs := by
  obtain ⟨hb, hl⟩ := exS_notbk ho
  have key : (v.agg = true ∧ ∃ cs : List Value, u = .agg cs.toArray ∧ Ce ⟨w, s.o, ρ⟩ v cs) ∨ (v.agg = false ∧ Ce ⟨w, s.o, ρ⟩ v [u]) := by
    rcases hv with (e | ⟨h1, h2⟩ | ⟨h1, _, h2⟩) | ⟨c, us, e, _⟩
    · subst e; simp [AV.sh] at hl
    · exact .inl ⟨h1, h2⟩
    · exact .inr ⟨h1, h2⟩
    · subst e; simp [AV.sh] at hl
  rcases key with ⟨h1, cs, h2, h3⟩ | ⟨h1, h3⟩
  · obtain ⟨x, own, ro, bs, g1, g2, g3, g4, g5, g6⟩ := exS_out h h3 ho
    exact ⟨x, own, ro, bs, g1, g2, g3, fun F hF => .inl ⟨by rw [← g5]; exact h1, cs, h2, g6 F hF⟩⟩
  · obtain ⟨x, own, ro, bs, g1, g2, g3, g4, g5, g6⟩ := exS_out h h3 ho
    exact ⟨x, own, ro, bs, g1, g2, g3, fun F hF => .inr ⟨by rw [← g5]; exact h1, g6 F hF⟩⟩

theorem exA_out {α : Type} (h : Rep W0 F0 ρ s a w) {r : α} : ∀ {sp : SP}, sp.isList = true → ∀ {vs : List AV} {k : sp.den → List Nat → List Nat → Pg α} {us : List Value}, Vals ⟨w, s.o, ρ⟩ vs us → (exS sp (listAV vs) k).Out s r s' →
    ∃ x own ro bs, (k x own ro).Out s r s' ∧ (∀ o ∈ own, ∃ c, s.o o = some c ∧ c.sh ≠ .bad) ∧ bs.Sublist (blk ρ own) ∧ ∀ F, (sp.noSl = true ∨ Outside s ρ ro F) → Args w F sp x us bs := by
  intro sp
  induction sp with
  | nl =>
    intro _ vs k us hv ho
    cases vs with
    | nil => 
      have hv : us = [] := hv
      exact ⟨(), [], [], [], ho, by simp, List.Sublist.refl _, fun F hF => ⟨hv, rfl⟩⟩
    | cons v vs => exact ho.elim
  | cons A B iha ihb =>
    intro hl vs k us hv ho
    cases vs with
    | nil => exact ho.elim
    | cons v vs =>
      obtain ⟨u, rest, rfl, h1, h2⟩ := hv
      simp only [exS, listAV] at ho
      obtain ⟨x, own, ro, bs, g1, g2, g3, g6⟩ := exV_out h h1 ho
      obtain ⟨y, own', ro', bs', f1, f2, f3, f6⟩ := ihb hl h2 g1
      refine ⟨(x, y), own ++ own', ro ++ ro', bs ++ bs', f1, fun q hq => ?_, by rw [blk_append]; exact g3.append f3, fun F hF => ⟨u, rest, bs, bs', rfl, rfl, ?_, ?_⟩⟩
      · rcases List.mem_append.1 hq with hq | hq
        · exact g2 q hq
        · exact f2 q hq
      · refine g6 F ?_
        rcases hF with hF | hF
        · simp only [SP.noSl, Bool.and_eq_true] at hF; exact .inl hF.1
        · exact .inr (hF.mono fun o ho => List.mem_append_left _ ho)
      · refine f6 F ?_
        rcases hF with hF | hF
        · simp only [SP.noSl, Bool.and_eq_true] at hF; exact .inl hF.2
        · exact .inr (hF.mono fun o ho => List.mem_append_right _ ho)
  | _ => intro hl; simp [SP.isList] at hl

/-- the arguments' names and what they are -/
def fxOf : AV → List Value → List (AV × Value)
  | .cons v r, u :: us => (v, u) :: fxOf r us
  | _, _ => []

theorem exOne_out {α : Type} (h : Rep W0 F0 ρ s a w) {r : α} {sp : SP} {v : AV} {u : Value} (hp : sp.par1 = true) (hu : Val ⟨w, s.o, ρ⟩ v u) {k : sp.odn → List Nat → List Nat → Pg α}
    (ho : (exO sp v k).Out s r s') :
    ∃ x own ro bs, (k x own ro).Out s r s' ∧ (∀ o ∈ own, ∃ c, s.o o = some c ∧ c.sh ≠ .bad) ∧ bs.Sublist (blk ρ own) ∧ ∀ F, Outs w F sp x [u] bs := by
  have key : ∀ {sp : SP} {o : Nat} {k : sp.den → List Nat → List Nat → Pg α} (hp : sp.noSl = true) (hu : Val ⟨w, s.o, ρ⟩ (.ref o []) u) (ho : (Pg.rdO o fun c => exS sp c k).Out s r s'),
      ∃ x own ro bs, (k x own ro).Out s r s' ∧ (∀ q ∈ o :: own, ∃ c, s.o q = some c ∧ c.sh ≠ .bad) ∧ bs.Sublist (blk ρ (o :: own)) ∧ ∀ F, Behind w (Tr w F sp x) u bs := by
    intro sp o k hp hu ho
    obtain ⟨ad, rfl, hA⟩ := hu.ref_eq
    obtain ⟨c, hcc, hd, ho⟩ := ho
    obtain ⟨l, cells, T, fr, ds, h1, h2, h3, h4, h5, h6, h7⟩ := h.whole hcc hd hA
    obtain ⟨x, own, ro, bs, g1, g2, g3, g4, g5, g6⟩ := exS_out h h4 ho
    refine ⟨x, own, ro, l.b :: bs, g1, fun q hq => ?_, by rw [blk_cons h1]; exact g3.cons_cons _, fun F => ⟨l.b, l.off, cells, T, fr, ds, bs, by rw [h2], rfl, h3, h5, h6, h7, g6 F (.inl hp)⟩⟩
    rcases List.mem_cons.1 hq with rfl | hq
    · exact ⟨c, hcc, AV.dead_sh hd⟩
    · exact g2 q hq
  cases sp with
  | pure t => exact ⟨(), [], [], [], ho, by simp, List.Sublist.refl _, fun F => rfl⟩
  | rptr t => exact ⟨(), [], [], [], ho, by simp, List.Sublist.refl _, fun F => rfl⟩
  | ptr sp =>
    simp only [exO] at ho
    split at ho
    · obtain ⟨x, own, ro, bs, g1, g2, g3, g5⟩ := key (by simpa [SP.par1] using hp) hu ho
      exact ⟨x, _, ro, bs, g1, g2, g3, fun F => ⟨u, rfl, g5 F⟩⟩
    · exact ho.elim
  | nptr sp =>
    simp only [exO] at ho
    split at ho
    · obtain ⟨x, own, ro, bs, g1, g2, g3, g5⟩ := key (by simpa [SP.par1] using hp) hu ho
      exact ⟨some x, _, ro, bs, g1, g2, g3, fun F => ⟨u, rfl, g5 F⟩⟩
    · refine ⟨none, [], [], [], ho, by simp, List.Sublist.refl _, fun F => ?_⟩
      rw [hu.nilp_eq]; exact ⟨rfl, rfl⟩
    · exact ho.elim
  | _ => simp [SP.par1] at hp

theorem exO_out {α : Type} (h : Rep W0 F0 ρ s a w) {r : α} : ∀ {sp : SP}, sp.parOk = true → ∀ {v : AV} {us : List Value}, us.length = sp.len → (∀ p, p ∈ fxOf v us → Val ⟨w, s.o, ρ⟩ p.1 p.2) → ∀ {k : sp.odn → List Nat → List Nat → Pg α},
    (exO sp v k).Out s r s' →
    ∃ x own ro bs, (k x own ro).Out s r s' ∧ (∀ o ∈ own, ∃ c, s.o o = some c ∧ c.sh ≠ .bad) ∧ bs.Sublist (blk ρ own) ∧ ∀ F, Outs w F sp x us bs := by
  intro sp
  induction sp with
  | nl =>
    intro _ v us hl hfx k ho
    exact ⟨(), [], [], [], ho, by simp, List.Sublist.refl _, fun F => rfl⟩
  | cons A B iha ihb =>
    intro hp v us hl hfx k ho
    simp only [SP.parOk, Bool.and_eq_true] at hp
    simp only [exO] at ho
    split at ho
    · cases us with
      | nil => simp [SP.len] at hl
      | cons u us =>
        obtain ⟨x, own, ro, bs, g1, g2, g3, g6⟩ := exOne_out h hp.1 (hfx _ (List.mem_cons_self ..)) ho
        obtain ⟨y, own', ro', bs', f1, f2, f3, f6⟩ := ihb hp.2 (by simpa [SP.len] using hl) (fun p hp => hfx p (List.mem_cons_of_mem _ hp)) g1
        refine ⟨(x, y), own ++ own', ro ++ ro', bs ++ bs', f1, fun q hq => ?_, by rw [blk_append]; exact g3.append f3, fun F => ⟨u, us, bs, bs', rfl, rfl, g6 F, f6 F⟩⟩
        rcases List.mem_append.1 hq with hq | hq
        · exact g2 q hq
        · exact f2 q hq
    · exact ho.elim
  | _ => intro hp; simp [SP.parOk] at hp
end
end Go.Ev

/- The promise of a function; what it hands back is laid into a state. -/
set_option linter.unusedVariables false
set_option linter.unusedSimpArgs false
namespace Go.Ev
open Go

def retV : List Value → Value
  | [u] => u
  | us => .tuple us.toArray

/-- a call of a function, with or without a body -/
def CallsF (P : Program) (f : FuncId) (us : Array Value) (w : World) (Post : Value → World → Prop) : Prop :=
  match (callFunc f us).run P w with
  | .ok (.value v) w' => Post v w'
  | .ok (.enter f args) w' => Calls P f args w' fun e w'' => match e with | .returned v => Post v w'' | _ => False
  | _ => False

/-- what the caller finds -/
structure Found (g : Sig) (x : g.ps.den) (us : List Value) (bs : List Nat) (w : World) (y : g.T) (u : Value) (w' : World) (rs : List Value) (bs1 bs2 : List Nat) : Prop where
  ret : u = retV rs
  fr : Fr w (· ∈ bs) w'
  nodup : (bs1 ++ bs2).Nodup
  from' : ∀ b, b ∈ bs1 ++ bs2 → b ∈ bs ∨ w.heap.size ≤ b
  rs : Args w' (· ∈ bs1 ++ bs2) g.rs (g.res x y) rs bs1
  outs : Outs w' (· ∈ bs1 ++ bs2) g.ps (g.out x y) us bs2

/-- the function computes what the signature's model says -/
def Meets (P : Program) (f : FuncId) (g : Sig) : Prop :=
  ∀ (w : World) (x : g.ps.den) (us : List Value) (bs : List Nat), bs.Nodup → Args w (· ∈ bs) g.ps x us bs → ∀ y, g.m x = some y →
    CallsF P f us.toArray w fun u w' => ∃ rs bs1 bs2, Found g x us bs w y u w' rs bs1 bs2

theorem toAV_agg : ∀ (t : Ty) (x : t.den), (toAV t x).agg = t.agg := by intro t x; cases t <;> rfl
theorem shT_ne_bad (t : Ty) : shT t ≠ .bad := by cases t <;> simp [shT]
theorem toAV_leaf {t : Ty} {x : t.den} (h : (toAV t x).agg = false) : (toAV t x).sh = .leaf := by
  cases t <;> simp [toAV, AV.agg] at h <;> rfl
theorem toAV_live (t : Ty) (x : t.den) : (toAV t x).dead = false := by cases t <;> rfl

section
variable {P : Program} {C : Cx} {W0 : World} {F0 : Base} {ρ : Nat → Option Loc} {s s' : St} {a : Act} {w : World}

/-- objects laid from a place on -/
structure Laid (nx n : Nat) (l : List (Nat × AV)) (τ : Nat → Option Loc) (pl : List (Nat × Nat)) (bs : List Nat) : Prop where
  le : nx ≤ n
  mem : ∀ p, p ∈ l → nx ≤ p.1 ∧ p.1 < n
  sub : (pl.map (·.2)).Sublist bs
  blk : ∀ o k, o ∈ namesOf l → τ o = some k → (o, k.b) ∈ pl
  live : ∀ p, p ∈ l → p.2.dead = false
  names : ∀ p, p ∈ pl → p.1 ∈ namesOf l

def OnE (E : Env) (l : List (Nat × AV)) (τ : Nat → Option Loc) : Prop := ∀ p, p ∈ l → E.s p.1 = some p.2 ∧ E.ρ p.1 = τ p.1
def ObsOK (E : Env) (l : List (Nat × AV)) : Prop := ∀ p, p ∈ l → ObOK E p.1 p.2

theorem Laid.nil (nx : Nat) : Laid nx nx [] (fun _ => none) [] [] := ⟨Nat.le_refl _, by simp, List.Sublist.refl _, by simp [namesOf], by simp, by simp⟩

theorem Laid.append {nx n n' : Nat} {l l' : List (Nat × AV)} {τ τ' : Nat → Option Loc} {pl pl' : List (Nat × Nat)} {bs bs' : List Nat} (h : Laid nx n l τ pl bs) (h' : Laid n n' l' τ' pl' bs') :
    Laid nx n' (l ++ l') (fun o => if o < n then τ o else τ' o) (pl ++ pl') (bs ++ bs') := by
  refine ⟨Nat.le_trans h.le h'.le, fun p hp => ?_, by rw [List.map_append]; exact h.sub.append h'.sub, fun o k ho hk => ?_, fun p hp => ?_, fun p hp => ?_⟩
  · rcases List.mem_append.1 hp with hp | hp
    · exact ⟨(h.mem p hp).1, Nat.lt_of_lt_of_le (h.mem p hp).2 h'.le⟩
    · exact ⟨Nat.le_trans h.le (h'.mem p hp).1, (h'.mem p hp).2⟩
  · simp only [namesOf, List.map_append, List.mem_append, List.mem_map] at ho
    rcases ho with ⟨p, hp, rfl⟩ | ⟨p, hp, rfl⟩
    · have := (h.mem p hp).2
      simp only [this, if_true] at hk
      exact List.mem_append_left _ (h.blk _ k (List.mem_map.2 ⟨p, hp, rfl⟩) hk)
    · have := (h'.mem p hp).1
      have hn : ¬ p.1 < n := by omega
      simp only [hn, if_false] at hk
      exact List.mem_append_right _ (h'.blk _ k (List.mem_map.2 ⟨p, hp, rfl⟩) hk)
  · rcases List.mem_append.1 hp with hp | hp
    · exact h.live p hp
    · exact h'.live p hp
  · simp only [namesOf, List.map_append]
    rcases List.mem_append.1 hp with hp | hp
    · exact List.mem_append_left _ (h.names p hp)
    · exact List.mem_append_right _ (h'.names p hp)

theorem OnE.append {E : Env} {nx n n' : Nat} {l l' : List (Nat × AV)} {τ τ' : Nat → Option Loc} {pl pl' : List (Nat × Nat)} {bs bs' : List Nat} (h : Laid nx n l τ pl bs) (h' : Laid n n' l' τ' pl' bs')
    (hE : OnE E (l ++ l') fun o => if o < n then τ o else τ' o) : OnE E l τ ∧ OnE E l' τ' := by
  refine ⟨fun p hp => ?_, fun p hp => ?_⟩
  · have := hE p (List.mem_append_left _ hp)
    dsimp only at this
    rw [if_pos (h.mem p hp).2] at this; exact this
  · have := hE p (List.mem_append_right _ hp)
    have hn : ¬ p.1 < n := by have := (h'.mem p hp).1; omega
    dsimp only at this
    rw [if_neg hn] at this; exact this

theorem inS_out {α : Type} {r : α} {F' : Nat → Prop} : ∀ {sp : SP} {x : sp.den} {nx : Nat} {k : AV → List (Nat × AV) → Nat → Pg α} {cs : List Value} {bs : List Nat}, Tr w F' sp x cs bs → (inS sp x nx k).Out s r s' →
    ∃ c l n τ pl, (k c l n).Out s r s' ∧ Laid nx n l τ pl bs ∧ c.sh.size = sp.size ∧ c.agg = sp.agg ∧ c.sh ≠ .bad ∧ (c.agg = false → c.sh = .leaf) ∧ c.dead = false ∧
      ∀ E : Env, E.w = w → OnE E l τ → (sp.noSl = true ∨ ∀ b, E.F b → F' b) → Ce E c cs ∧ ObsOK E l := by
  intro sp
  have key : ∀ {sp : SP} {x : sp.den} {nx : Nat} {k : AV → List (Nat × AV) → Nat → Pg α} {u : Value} {bs : List Nat} (ih : ∀ {x : sp.den} {nx : Nat} {k : AV → List (Nat × AV) → Nat → Pg α} {cs : List Value} {bs : List Nat}, Tr w F' sp x cs bs → (inS sp x nx k).Out s r s' →
      ∃ c l n τ pl, (k c l n).Out s r s' ∧ Laid nx n l τ pl bs ∧ c.sh.size = sp.size ∧ c.agg = sp.agg ∧ c.sh ≠ .bad ∧ (c.agg = false → c.sh = .leaf) ∧ c.dead = false ∧
        ∀ E : Env, E.w = w → OnE E l τ → (sp.noSl = true ∨ ∀ b, E.F b → F' b) → Ce E c cs ∧ ObsOK E l),
      Behind w (Tr w F' sp x) u bs → (inS sp x (nx + 1) fun c l n => k (.ref nx []) ((nx, c) :: l) n).Out s r s' →
      ∃ l n τ pl, (k (.ref nx []) l n).Out s r s' ∧ Laid nx n l τ pl bs ∧
        ∀ E : Env, E.w = w → OnE E l τ → (sp.noSl = true ∨ ∀ b, E.F b → F' b) → Ce E (.ref nx []) [u] ∧ ObsOK E l := by
    intro sp x nx k u bs ih hb ho
    obtain ⟨b, off, cells, T, fr, ds, bs', rfl, rfl, h3, h5, h6, h7, h8⟩ := hb
    obtain ⟨c, l, n, τ, pl, g1, g2, g3, g4, g5, g5', g6, g7⟩ := ih h8 ho
    refine ⟨(nx, c) :: l, n, fun o => if o = nx then some ⟨b, off⟩ else τ o, (nx, b) :: pl, g1, ⟨Nat.le_of_succ_le g2.le, fun p hp => ?_, ?_, fun o k ho hk => ?_, fun p hp => ?_, fun p hp => ?_⟩, fun E hw hE hF => ?_⟩
    · rcases List.mem_cons.1 hp with rfl | hp
      · exact ⟨Nat.le_refl _, g2.le⟩
      · exact ⟨Nat.le_of_succ_le (g2.mem p hp).1, (g2.mem p hp).2⟩
    · exact g2.sub.cons_cons _
    · by_cases e : o = nx
      · subst e
        simp only [if_true, Option.some.injEq] at hk
        subst hk
        exact List.mem_cons_self ..
      · simp only [e, if_false] at hk
        simp only [namesOf, List.map_cons, List.mem_cons] at ho
        exact List.mem_cons_of_mem _ (g2.blk o k (ho.resolve_left e) hk)
    · rcases List.mem_cons.1 hp with rfl | hp
      · exact g6
      · exact g2.live p hp
    · rcases List.mem_cons.1 hp with rfl | hp
      · exact List.mem_cons_self ..
      · exact List.mem_cons_of_mem _ (g2.names p hp)
    · have h0 := hE (nx, c) (List.mem_cons_self ..)
      simp only [if_true] at h0
      have hE' : OnE E l τ := fun p hp => by
        have := hE p (List.mem_cons_of_mem _ hp)
        have hn : p.1 ≠ nx := by have := (g2.mem p hp).1; omega
        dsimp only at this
        rw [if_neg hn] at this; exact this
      obtain ⟨f1, f2⟩ := g7 E hw hE' hF
      refine ⟨⟨_, rfl, c, h0.1, .inr ⟨⟨b, off⟩, 0, c.sh, h0.2, rfl, rfl⟩⟩, fun p hp => ?_⟩
      rcases List.mem_cons.1 hp with rfl | hp
      · exact .inl ⟨⟨b, off⟩, cells, T, fr, ds, h0.2, by rw [hw]; exact h3, f1, h5, h6, h7⟩
      · exact f2 p hp
  induction sp with
  | pure t =>
    intro x nx k cs bs ht ho
    obtain ⟨hp, rfl⟩ := ht
    refine ⟨_, [], nx, fun _ => none, [], ho, Laid.nil nx, toAV_size t x, toAV_agg t x, by rw [toAV_sh]; exact shT_ne_bad t, toAV_leaf, toAV_live t x, fun E hw hE hF => ⟨?_, by intro p hp; simp at hp⟩⟩
    refine ce_toAV ?_
    rcases hF with hF | hF
    · exact hp.anywhere hF
    · exact hp.mono fun b o hb ho => ⟨by rw [hw]; exact ho, fun hn => hb (hF b hn)⟩
  | own t =>
    intro x nx k cs bs ht ho
    obtain ⟨ad, cap, rfl, hcap, hh⟩ := ht
    rcases hh with ⟨h0, rfl⟩ | ⟨b, off, cells, T, fr, rfl, rfl, h1, h2, h3, h4⟩
    · refine ⟨_, _, _, fun _ => none, [], ho, ⟨Nat.le_succ _, fun p hp => ?_, List.Sublist.refl _, fun o k _ hk => by simp at hk, fun p hp => ?_, by simp⟩, rfl, rfl, by simp [AV.sh], fun _ => rfl, rfl, fun E hw hE hF => ?_⟩
      · rw [List.mem_singleton] at hp; subst hp; exact ⟨Nat.le_refl _, Nat.lt_succ_self _⟩
      · rw [List.mem_singleton] at hp; subst hp; rfl
      · have h1 := hE _ (List.mem_singleton.2 rfl)
        have hx : x = [] := List.eq_nil_of_length_eq_zero (by omega)
        refine ⟨⟨_, rfl, List.length x, ad, cap, rfl, hcap, _, h1.1, .inr ⟨t, rfl, .inl h0⟩⟩, fun p hp => ?_⟩
        rw [List.mem_singleton] at hp; subst hp
        exact .inr ⟨h1.2, t, by rw [hx]⟩
    · refine ⟨_, _, _, fun _ => some ⟨b, off⟩, [(nx, b)], ho, ⟨Nat.le_succ _, fun p hp => ?_, List.Sublist.refl _, fun o k ho hk => ?_, fun p hp => ?_, fun p hp => ?_⟩, rfl, rfl, by simp [AV.sh], fun _ => rfl, rfl, fun E hw hE hF => ?_⟩
      · rw [List.mem_singleton] at hp; subst hp; exact ⟨Nat.le_refl _, Nat.lt_succ_self _⟩
      · simp only [namesOf, List.map_cons, List.map_nil, List.mem_singleton] at ho
        simp only [Option.some.injEq] at hk
        subst ho; subst hk; exact List.mem_singleton.2 rfl
      · rw [List.mem_singleton] at hp; subst hp; rfl
      · rw [List.mem_singleton] at hp; subst hp; exact List.mem_singleton.2 rfl
      · have g1 := hE _ (List.mem_singleton.2 rfl)
        have hle : List.length x * t.size ≤ cap * t.size := Nat.mul_le_mul_right _ hcap
        refine ⟨⟨_, rfl, List.length x, _, cap, rfl, hcap, _, g1.1, .inr ⟨t, rfl, .inr ⟨⟨b, off⟩, cells, T, fr, g1.2, rfl, by rw [hw]; exact h1, h2⟩⟩⟩, fun p hp => ?_⟩
        rw [List.mem_singleton] at hp; subst hp
        have hl : (seg cells off (List.length x * t.size)).length = List.length x * t.size := seg_length (by omega)
        refine .inl ⟨⟨b, off⟩, cells, T, fr, seg cells off (List.length x * t.size), g1.2, by rw [hw]; exact h1, ?_, by rw [hl]; show off + _ ≤ _; omega, by rw [hl], h3⟩
        show Pu E.w E.F (.arr (List.length x) t) x _
        rcases hF with hF | hF
        · exact h4.anywhere (t := .arr _ _) hF
        · exact h4.mono fun b o hb ho => ⟨by rw [hw]; exact ho, fun hn => hb (hF b hn)⟩
  | rptr t =>
    intro x nx k cs bs ht ho
    obtain ⟨rfl, b, off, cells, T, fr, rfl, hnF, hb, hs, hp⟩ := ht
    refine ⟨_, [], nx, fun _ => none, [], ho, Laid.nil nx, rfl, rfl, by simp [AV.sh], fun _ => rfl, rfl, fun E hw hE hF => ⟨?_, by intro p hp; simp at hp⟩⟩
    rcases hF with hF | hF
    · simp [SP.noSl] at hF
    · exact ⟨_, rfl, b, off, cells, T, fr, rfl, fun hn => hnF (hF b hn), by rw [hw]; exact hb, hs, hp.mono fun b o hb ho => ⟨by rw [hw]; exact ho, fun hn => hb (hF b hn)⟩⟩
  | ptr sp ih =>
    intro x nx k cs bs ht ho
    obtain ⟨u, rfl, hb⟩ := ht
    obtain ⟨l, n, τ, pl, g1, g2, g3⟩ := key ih hb ho
    exact ⟨_, l, n, τ, pl, g1, g2, rfl, rfl, by simp [AV.sh], fun _ => rfl, rfl, g3⟩
  | nptr sp ih =>
    intro x nx k cs bs ht ho
    simp only [inS] at ho
    rcases ho with ⟨e, ho⟩ | ⟨y, e, ho⟩
    · rw [e] at ht
      obtain ⟨rfl, rfl⟩ := ht
      exact ⟨_, [], nx, fun _ => none, [], ho, Laid.nil nx, rfl, rfl, by simp [AV.sh], fun _ => rfl, rfl, fun E hw hE hF => ⟨rfl, by intro p hp; simp at hp⟩⟩
    · rw [e] at ht
      obtain ⟨u, rfl, hb⟩ := ht
      obtain ⟨l, n, τ, pl, g1, g2, g3⟩ := key ih hb ho
      exact ⟨_, l, n, τ, pl, g1, g2, rfl, rfl, by simp [AV.sh], fun _ => rfl, rfl, g3⟩
  | nl =>
    intro x nx k cs bs ht ho
    obtain ⟨rfl, rfl⟩ := ht
    exact ⟨_, [], nx, fun _ => none, [], ho, Laid.nil nx, rfl, rfl, by simp [AV.sh], fun e => by simp [AV.agg] at e, rfl, fun E hw hE hF => ⟨rfl, by intro p hp; simp at hp⟩⟩
  | cons A B iha ihb =>
    intro x nx k cs bs ht ho
    obtain ⟨bs1, bs2, rfl, t1, t2⟩ := ht
    simp only [inS] at ho
    obtain ⟨c, l, n, τ, pl, g1, g2, g3, g4, g5, g5', g6, g7⟩ := iha t1 ho
    obtain ⟨c', l', n', τ', pl', f1, f2, f3, f4, f5, f5', f6, f7⟩ := ihb t2 g1
    refine ⟨_, _, n', _, _, f1, g2.append f2, by simp [AV.sh, Sh.size, SP.size, g3, f3], rfl, by simp [AV.sh], fun e => by simp [AV.agg] at e, rfl, fun E hw hE hF => ?_⟩
    obtain ⟨e1, e2⟩ := hE.append g2 f2
    have hF1 : A.noSl = true ∨ ∀ b, E.F b → F' b := hF.imp (fun h => by simp only [SP.noSl, Bool.and_eq_true] at h; exact h.1) id
    have hF2 : B.noSl = true ∨ ∀ b, E.F b → F' b := hF.imp (fun h => by simp only [SP.noSl, Bool.and_eq_true] at h; exact h.2) id
    obtain ⟨k1, k2⟩ := g7 E hw e1 hF1
    obtain ⟨k3, k4⟩ := f7 E hw e2 hF2
    refine ⟨⟨by rw [g3]; exact k1, by rw [g3]; exact k3⟩, fun p hp => ?_⟩
    rcases List.mem_append.1 hp with hp | hp
    · exact k2 p hp
    · exact k4 p hp

theorem inA_out {α : Type} {r : α} {F' : Nat → Prop} : ∀ {sp : SP}, sp.isList = true → ∀ {x : sp.den} {nx : Nat} {k : AV → List (Nat × AV) → Nat → Pg α} {us : List Value} {bs : List Nat}, Args w F' sp x us bs → (inS sp x nx k).Out s r s' →
    ∃ c l n τ pl, (k c l n).Out s r s' ∧ Laid nx n l τ pl bs ∧
      ∀ E : Env, E.w = w → OnE E l τ → (sp.noSl = true ∨ ∀ b, E.F b → F' b) → ValT E c us ∧ ObsOK E l := by
  intro sp
  induction sp with
  | nl =>
    intro _ x nx k us bs ht ho
    obtain ⟨rfl, rfl⟩ := ht
    exact ⟨_, [], nx, fun _ => none, [], ho, Laid.nil nx, fun E hw hE hF => ⟨rfl, by intro p hp; simp at hp⟩⟩
  | cons A B iha ihb =>
    intro hl x nx k us bs ht ho
    obtain ⟨u, rest, bs1, bs2, rfl, rfl, t1, t2⟩ := ht
    simp only [inS] at ho
    have hd : ∃ c l n τ pl, (inS B x.2 n fun u m n' => k (.cons c u) (l ++ m) n').Out s r s' ∧ Laid nx n l τ pl bs1 ∧ ∀ E : Env, E.w = w → OnE E l τ → (A.noSl = true ∨ ∀ b, E.F b → F' b) → Val1 E c u ∧ ObsOK E l := by
      rcases t1 with ⟨e1, cs, rfl, t1⟩ | ⟨e1, t1⟩
      · obtain ⟨c, l, n, τ, pl, g1, g2, g3, g4, g5, g5', g6, g7⟩ := inS_out t1 ho
        refine ⟨c, l, n, τ, pl, g1, g2, fun E hw hE hF => ?_⟩
        obtain ⟨k1, k2⟩ := g7 E hw hE hF
        exact ⟨.inr (.inl ⟨g4.trans e1, cs, rfl, k1⟩), k2⟩
      · obtain ⟨c, l, n, τ, pl, g1, g2, g3, g4, g5, g5', g6, g7⟩ := inS_out t1 ho
        refine ⟨c, l, n, τ, pl, g1, g2, fun E hw hE hF => ?_⟩
        obtain ⟨k1, k2⟩ := g7 E hw hE hF
        exact ⟨.inr (.inr ⟨g4.trans e1, g5' (g4.trans e1), k1⟩), k2⟩
    obtain ⟨c, l, n, τ, pl, g1, g2, g7⟩ := hd
    obtain ⟨c', l', n', τ', pl', f1, f2, f7⟩ := ihb hl t2 g1
    refine ⟨_, _, n', _, _, f1, g2.append f2, fun E hw hE hF => ?_⟩
    obtain ⟨e1, e2⟩ := hE.append g2 f2
    have hF1 : A.noSl = true ∨ ∀ b, E.F b → F' b := hF.imp (fun h => by simp only [SP.noSl, Bool.and_eq_true] at h; exact h.1) id
    have hF2 : B.noSl = true ∨ ∀ b, E.F b → F' b := hF.imp (fun h => by simp only [SP.noSl, Bool.and_eq_true] at h; exact h.2) id
    obtain ⟨k1, k2⟩ := g7 E hw e1 hF1
    obtain ⟨k3, k4⟩ := f7 E hw e2 hF2
    refine ⟨⟨u, rest, rfl, k1, k3⟩, fun p hp => ?_⟩
    rcases List.mem_append.1 hp with hp | hp
    · exact k2 p hp
    · exact k4 p hp
  | _ => intro hl; simp [SP.isList] at hl

/-- contents for the objects of a caller, and what they lead to -/
structure Back (s : St) (ρ : Nat → Option Loc) (w : World) (nx n : Nat) (ws l : List (Nat × AV)) (τ : Nat → Option Loc) (pl : List (Nat × Nat)) (bs : List Nat) : Prop where
  le : nx ≤ n
  mem : ∀ p, p ∈ l → nx ≤ p.1 ∧ p.1 < n
  sub : (pl.map (·.2)).Sublist bs
  blk : ∀ o k, o ∈ namesOf l → τ o = some k → (o, k.b) ∈ pl
  live : ∀ p, p ∈ l → p.2.dead = false
  old : ∀ p, p ∈ ws → (∀ d, s.o p.1 = some d → d.sh ≠ .bad) → ∃ k, ρ p.1 = some k ∧ (p.1, k.b) ∈ pl
  oldlive : ∀ p, p ∈ ws → p.2.dead = false
  ok : ∀ E : Env, E.w = w → OnE E l τ → OnE E ws ρ → (∀ p, p ∈ ws → ∀ d, s.o p.1 = some d → d.sh ≠ .bad) → ObsOK E l ∧ ObsOK E ws

theorem Back.none (nx : Nat) : Back s ρ w nx nx [] [] (fun _ => Option.none) [] [] :=
  ⟨Nat.le_refl _, by simp, List.Sublist.refl _, by simp [namesOf], by simp, by simp, by simp, fun E _ _ _ _ => ⟨by intro p hp; simp at hp, by intro p hp; simp at hp⟩⟩

theorem Back.append {nx n n' : Nat} {ws l ws' l' : List (Nat × AV)} {τ τ' : Nat → Option Loc} {pl pl' : List (Nat × Nat)} {bs bs' : List Nat} (g : Back s ρ w nx n ws l τ pl bs) (f : Back s ρ w n n' ws' l' τ' pl' bs') :
    Back s ρ w nx n' (ws ++ ws') (l ++ l') (fun o => if o < n then τ o else τ' o) (pl ++ pl') (bs ++ bs') := by
  refine ⟨Nat.le_trans g.le f.le, fun p hp => ?_, by rw [List.map_append]; exact g.sub.append f.sub, fun o k ho hk => ?_, fun p hp => ?_, fun p hp hlv => ?_, fun p hp => ?_, fun E hw hE hEw hlv => ?_⟩
  · rcases List.mem_append.1 hp with hp | hp
    · exact ⟨(g.mem p hp).1, Nat.lt_of_lt_of_le (g.mem p hp).2 f.le⟩
    · exact ⟨Nat.le_trans g.le (f.mem p hp).1, (f.mem p hp).2⟩
  · simp only [namesOf, List.map_append, List.mem_append, List.mem_map] at ho
    rcases ho with ⟨p, hp, rfl⟩ | ⟨p, hp, rfl⟩
    · have := (g.mem p hp).2
      simp only [this, if_true] at hk
      exact List.mem_append_left _ (g.blk _ k (List.mem_map.2 ⟨p, hp, rfl⟩) hk)
    · have := (f.mem p hp).1
      have hn : ¬ p.1 < n := by omega
      simp only [hn, if_false] at hk
      exact List.mem_append_right _ (f.blk _ k (List.mem_map.2 ⟨p, hp, rfl⟩) hk)
  · rcases List.mem_append.1 hp with hp | hp
    · exact g.live p hp
    · exact f.live p hp
  · rcases List.mem_append.1 hp with hp | hp
    · obtain ⟨k, h1, h2⟩ := g.old p hp hlv; exact ⟨k, h1, List.mem_append_left _ h2⟩
    · obtain ⟨k, h1, h2⟩ := f.old p hp hlv; exact ⟨k, h1, List.mem_append_right _ h2⟩
  · rcases List.mem_append.1 hp with hp | hp
    · exact g.oldlive p hp
    · exact f.oldlive p hp
  · have e1 : OnE E l τ := fun p hp => by
      have := hE p (List.mem_append_left _ hp)
      dsimp only at this
      rw [if_pos (g.mem p hp).2] at this; exact this
    have e2 : OnE E l' τ' := fun p hp => by
      have := hE p (List.mem_append_right _ hp)
      have hn : ¬ p.1 < n := by have := (f.mem p hp).1; omega
      dsimp only at this
      rw [if_neg hn] at this; exact this
    obtain ⟨k1, k2⟩ := g.ok E hw e1 (fun p hp => hEw p (List.mem_append_left _ hp)) (fun p hp => hlv p (List.mem_append_left _ hp))
    obtain ⟨k3, k4⟩ := f.ok E hw e2 (fun p hp => hEw p (List.mem_append_right _ hp)) (fun p hp => hlv p (List.mem_append_right _ hp))
    refine ⟨fun p hp => ?_, fun p hp => ?_⟩
    · rcases List.mem_append.1 hp with hp | hp
      · exact k1 p hp
      · exact k3 p hp
    · rcases List.mem_append.1 hp with hp | hp
      · exact k2 p hp
      · exact k4 p hp

theorem reO_out {α : Type} {r : α} {F' : Nat → Prop} {wold : World} {t t' : St} : ∀ {sp : SP}, sp.parOk = true → ∀ {y : sp.odn} {us : List Value} {bs : List Nat} {vs : AV} {nx : Nat} {k : List (Nat × AV) → List (Nat × AV) → Nat → Pg α},
    Outs w F' sp y us bs → us.length = sp.len → (∀ p, p ∈ fxOf vs us → Val ⟨wold, s.o, ρ⟩ p.1 p.2) → (reO sp y vs nx k).Out t r t' →
    ∃ ws l n τ pl, (k ws l n).Out t r t' ∧ Back s ρ w nx n ws l τ pl bs := by
  intro sp
  have one : ∀ {sp : SP}, sp.par1 = true → ∀ {y : sp.odn} {u : Value} {bs : List Nat} {v : AV} {nx : Nat} {k : List (Nat × AV) → List (Nat × AV) → Nat → Pg α},
      Outs w F' sp y [u] bs → Val ⟨wold, s.o, ρ⟩ v u → (reO sp y v nx k).Out t r t' →
      ∃ ws l n τ pl, (k ws l n).Out t r t' ∧ Back s ρ w nx n ws l τ pl bs := by
    intro sp hp
    have ptr : ∀ {sp : SP}, sp.noSl = true → ∀ {y : sp.den} {u : Value} {bs : List Nat} {o : Nat} {nx : Nat} {k : List (Nat × AV) → List (Nat × AV) → Nat → Pg α},
        Behind w (Tr w F' sp y) u bs → Val ⟨wold, s.o, ρ⟩ (.ref o []) u → (inS sp y nx fun c l n => k [(o, c)] l n).Out t r t' →
        ∃ ws l n τ pl, (k ws l n).Out t r t' ∧ Back s ρ w nx n ws l τ pl bs := by
      intro sp hn y u bs o nx k hb hv ho
      obtain ⟨b, off, cells, T, fr, ds, bs', rfl, rfl, h3, h5, h6, h7, h8⟩ := hb
      obtain ⟨c, l, n, τ, pl, g1, g2, g3, g4, g5, g5', g6, g7⟩ := inS_out h8 ho
      obtain ⟨ad, had, d, hd, hA⟩ := hv.ref_eq
      simp only [Value.pointer.injEq, Option.some.injEq] at had
      subst had
      have loc : (∀ d, s.o o = some d → d.sh ≠ .bad) → ρ o = some ⟨b, off⟩ := fun hl => by
        rcases hA with hA | ⟨l', k', e', h1, h2, h3⟩
        · exact absurd hA (hl d hd)
        · simp only [Sh.off, Option.some.injEq, Prod.mk.injEq] at h2
          obtain ⟨rfl, rfl⟩ := h2
          simp only [Addr.mk.injEq, Nat.add_zero, and_true] at h3
          have h1 : ρ o = some l' := h1
          rw [h1]
          cases l'; simp only [Option.some.injEq, Loc.mk.injEq]; exact ⟨h3.1.symm, h3.2.symm⟩
      refine ⟨_, l, n, τ, (o, b) :: pl, g1, g2.le, g2.mem, g2.sub.cons_cons _, fun q k hq hk => List.mem_cons_of_mem _ (g2.blk q k hq hk), g2.live, fun p hp hl => ?_, fun p hp => ?_, fun E hw hE hEw hl => ?_⟩
      · rw [List.mem_singleton] at hp; subst hp
        exact ⟨_, loc hl, List.mem_cons_self ..⟩
      · rw [List.mem_singleton] at hp; subst hp; exact g6
      · obtain ⟨k1, k2⟩ := g7 E hw hE (.inl hn)
        refine ⟨k2, fun p hp => ?_⟩
        have h0 := hEw p hp
        have hl' := hl p hp
        rw [List.mem_singleton] at hp; subst hp
        exact .inl ⟨⟨b, off⟩, cells, T, fr, ds, by rw [h0.2]; exact loc hl', by rw [hw]; exact h3, k1, h5, h6, h7⟩
    intro y u bs v nx k hout hv ho
    cases sp with
    | pure t =>
      have hout : bs = [] := hout
      subst hout
      exact ⟨[], [], nx, fun _ => none, [], ho, Back.none nx⟩
    | rptr t =>
      have hout : bs = [] := hout
      subst hout
      exact ⟨[], [], nx, fun _ => none, [], ho, Back.none nx⟩
    | ptr sp =>
      obtain ⟨u', hu', hb⟩ := hout
      simp only [List.cons.injEq, and_true] at hu'
      subst hu'
      simp only [reO] at ho
      split at ho
      · exact ptr (by simpa [SP.par1] using hp) hb hv ho
      · exact ho.elim
    | nptr sp =>
      simp only [reO] at ho
      split at ho
      · rcases ho with ⟨e, ho⟩ | ⟨y', e, ho⟩
        · exact ho.elim
        · rw [e] at hout
          obtain ⟨u', hu', hb⟩ := hout
          simp only [List.cons.injEq, and_true] at hu'
          subst hu'
          exact ptr (by simpa [SP.par1] using hp) hb hv ho
      · have hbs : bs = [] := by
          cases y with
          | none => exact hout.2
          | some y' =>
            exfalso
            obtain ⟨u', hu', b, off, cells, T, fr, ds, bs', e, _⟩ := hout
            simp only [List.cons.injEq, and_true] at hu'
            subst hu'
            rw [hv.nilp_eq] at e
            simp at e
        subst hbs
        exact ⟨[], [], nx, fun _ => none, [], ho, Back.none nx⟩
      · exact ho.elim
    | _ => simp [SP.par1] at hp
  induction sp with
  | nl =>
    intro _ y us bs vs nx k hout hl hfx ho
    have hout : bs = [] := hout
    subst hout
    exact ⟨[], [], nx, fun _ => none, [], ho, Back.none nx⟩
  | cons A B iha ihb =>
    intro hp y us bs vs nx k hout hl hfx ho
    simp only [SP.parOk, Bool.and_eq_true] at hp
    obtain ⟨u, rest, bs1, bs2, rfl, rfl, o1, o2⟩ := hout
    simp only [reO] at ho
    split at ho
    · obtain ⟨ws, l, n, τ, pl, g1, g2⟩ := one hp.1 o1 (hfx _ (List.mem_cons_self ..)) ho
      obtain ⟨ws', l', n', τ', pl', f1, f2⟩ := ihb hp.2 o2 (by simpa [SP.len] using hl) (fun p hp => hfx p (List.mem_cons_of_mem _ hp)) g1
      exact ⟨_, _, n', _, _, f1, g2.append f2⟩
    · exact ho.elim
  | _ => intro hp; simp [SP.parOk] at hp
end
end Go.Ev

/- A call of a function that keeps its promise. -/
set_option linter.unusedVariables false
set_option linter.unusedSimpArgs false
namespace Go.Ev
open Go

theorem memN_iff {i : Nat} : ∀ {l : List Nat}, memN i l = true ↔ i ∈ l := by
  intro l
  induction l with
  | nil => simp [memN]
  | cons j r ih =>
    simp only [memN, Bool.or_eq_true, ih, List.mem_cons]
    constructor
    · rintro (h | h)
      · exact .inl (Nat.eq_of_beq_eq_true h).symm
      · exact .inr h
    · rintro (h | h)
      · exact .inl (by subst h; simp)
      · exact .inr h
theorem memN_false {i : Nat} {l : List Nat} : memN i l = false ↔ i ∉ l := by
  rw [← memN_iff]; simp
theorem nodupN_iff : ∀ {l : List Nat}, nodupN l = true ↔ l.Nodup := by
  intro l
  induction l with
  | nil => simp [nodupN]
  | cons j r ih => simp [nodupN, ih, memN_false]
theorem apartN_spec : ∀ {l m : List Nat}, apartN l m = true → ∀ i, i ∈ l → i ∉ m := by
  intro l m
  induction l with
  | nil => intro _ i hi; simp at hi
  | cons j r ih =>
    intro h i hi
    simp only [apartN, Bool.and_eq_true, Bool.not_eq_true'] at h
    rcases List.mem_cons.1 hi with rfl | hi
    · exact memN_false.1 h.1
    · exact ih h.2 i hi
theorem mem_without {i : Nat} : ∀ {l m : List Nat}, i ∈ without l m ↔ i ∈ l ∧ i ∉ m := by
  intro l m
  induction l with
  | nil => simp [without]
  | cons j r ih =>
    simp only [without]
    cases hj : memN j m with
    | true =>
      simp only [cond_true, ih, List.mem_cons]
      constructor
      · rintro ⟨h1, h2⟩; exact ⟨.inr h1, h2⟩
      · rintro ⟨h1 | h1, h2⟩
        · subst h1; exact absurd (memN_iff.1 hj) h2
        · exact ⟨h1, h2⟩
    | false =>
      simp only [cond_false, ih, List.mem_cons]
      constructor
      · rintro (h1 | ⟨h1, h2⟩)
        · subst h1; exact ⟨.inl rfl, memN_false.1 hj⟩
        · exact ⟨.inr h1, h2⟩
      · rintro ⟨h1 | h1, h2⟩
        · exact .inl h1
        · exact .inr ⟨h1, h2⟩

section
variable {P : Program} {C : Cx} {W0 : World} {F0 : Base} {ρ : Nat → Option Loc} {s s' : St} {a : Act} {w : World}

theorem out_wrAll {α : Type} {r : α} : ∀ {ws : List (Nat × AV)} {p : Pg α} {s : St}, (namesOf ws).Nodup → (wrAll ws p).Out s r s' →
    ∃ s1, p.Out s1 r s' ∧ s1.n = s.n ∧ (∀ t, s1.t t = s.t t) ∧ (∀ q, q ∈ ws → s1.o q.1 = some q.2 ∧ ∃ d, s.o q.1 = some d ∧ d.dead = false ∧ q.2.sh = d.sh) ∧ ∀ o, o ∉ namesOf ws → s1.o o = s.o o := by
  intro ws
  induction ws with
  | nil => intro p s _ h; exact ⟨s, h, rfl, fun _ => rfl, by simp, fun _ _ => rfl⟩
  | cons q ws ih =>
    obtain ⟨o, c⟩ := q
    intro p s hn h
    simp only [namesOf, List.map_cons, List.nodup_cons] at hn
    simp only [wrAll] at h
    obtain ⟨d, hd, hdd, h⟩ := h
    dsimp only at h
    split at h
    · rename_i hsh
      obtain ⟨_, h⟩ := h
      obtain ⟨s1, g1, g2, g3, g4, g5⟩ := ih hn.2 h
      have hno : ∀ q, q ∈ ws → o ≠ q.1 := fun q hq e => hn.1 (by rw [e]; exact List.mem_map.2 ⟨q, hq, rfl⟩)
      refine ⟨s1, g1, g2, g3, fun q hq => ?_, fun x hx => ?_⟩
      · rcases List.mem_cons.1 hq with rfl | hq
        · refine ⟨?_, d, hd, hdd, hsh⟩
          rw [g5 o hn.1, St.setO_o, if_pos rfl]
        · obtain ⟨h1, d', h2, h3, h4⟩ := g4 q hq
          rw [St.setO_o, if_neg (hno q hq)] at h2
          exact ⟨h1, d', h2, h3, h4⟩
      · simp only [namesOf, List.map_cons, List.mem_cons, not_or] at hx
        rw [g5 x hx.2, St.setO_o, if_neg (Ne.symm hx.1)]
    · exact h.elim

theorem out_killAll {α : Type} {r : α} : ∀ {ks : List Nat} {p : Pg α} {s : St}, (killAll ks p).Out s r s' →
    ∃ s1, p.Out s1 r s' ∧ s1.n = s.n ∧ (∀ t, s1.t t = s.t t) ∧ (∀ o, o ∈ ks → s1.o o = some .top ∧ ∃ d, s.o o = some d) ∧ ∀ o, o ∉ ks → s1.o o = s.o o := by
  intro ks
  induction ks with
  | nil => intro p s h; exact ⟨s, h, rfl, fun _ => rfl, by simp, fun _ _ => rfl⟩
  | cons k ks ih =>
    intro p s h
    obtain ⟨⟨d, hd⟩, h⟩ := h
    obtain ⟨s1, g1, g2, g3, g4, g5⟩ := ih h
    refine ⟨s1, g1, g2, g3, fun o ho => ?_, fun x hx => ?_⟩
    · by_cases e : o ∈ ks
      · obtain ⟨h1, d', h2⟩ := g4 o e
        refine ⟨h1, ?_⟩
        rw [St.setO_o] at h2
        by_cases e2 : k = o
        · subst e2; exact ⟨d, hd⟩
        · rw [if_neg e2] at h2; exact ⟨d', h2⟩
      · have e2 : o = k := (List.mem_cons.1 ho).resolve_right e
        subst e2
        exact ⟨by rw [g5 o e, St.setO_o, if_pos rfl], d, hd⟩
    · simp only [List.mem_cons, not_or] at hx
      rw [g5 x hx.2, St.setO_o, if_neg (Ne.symm hx.1)]

theorem out_newAll {α : Type} {r : α} : ∀ {l : List (Nat × AV)} {p : Pg α} {s : St}, (newAll l p).Out s r s' →
    ∃ s1, p.Out s1 r s' ∧ s1.n = s.n ∧ (∀ t, s1.t t = s.t t) ∧ (∀ q, q ∈ l → s1.o q.1 = some q.2 ∧ s.o q.1 = none) ∧ ∀ o, o ∉ namesOf l → s1.o o = s.o o := by
  intro l
  induction l with
  | nil => intro p s h; exact ⟨s, h, rfl, fun _ => rfl, by simp, fun _ _ => rfl⟩
  | cons q l ih =>
    obtain ⟨o, c⟩ := q
    intro p s h
    simp only [newAll] at h
    obtain ⟨hn, h⟩ := h
    obtain ⟨s1, g1, g2, g3, g4, g5⟩ := ih h
    have hno : o ∉ namesOf l := fun hm => by
      obtain ⟨q, hq, e⟩ := List.mem_map.1 hm
      have := (g4 q hq).2
      rw [St.setO_o, if_pos e.symm] at this
      cases this
    refine ⟨s1, g1, g2, g3, fun q hq => ?_, fun x hx => ?_⟩
    · rcases List.mem_cons.1 hq with rfl | hq
      · exact ⟨by rw [g5 o hno, St.setO_o, if_pos rfl], hn⟩
      · obtain ⟨h1, h2⟩ := g4 q hq
        refine ⟨h1, ?_⟩
        rw [St.setO_o] at h2
        split at h2
        · cases h2
        · exact h2
    · simp only [namesOf, List.map_cons, List.mem_cons, not_or] at hx
      rw [g5 x hx.2, St.setO_o, if_neg (Ne.symm hx.1)]

/-- after an operation the state says so much of every next frame and world -/
def Leads (P : Program) (W0 : World) (F0 : Base) (o : Oper) (a : Act) (w : World) (v : AV) (s' : St) : Prop :=
  ∀ (next : Act → World → Prop) (Q : Exit → Act → World → Prop), (∀ u w' ρ', Rep W0 F0 ρ' s' a w' → Val ⟨w', s'.o, ρ'⟩ v u → next (a.put o.dst u) w') → o.wp P a w next Q

theorem Gives.leads {o : Oper} {v : AV} (h : Gives P W0 F0 o a w v s') : Leads P W0 F0 o a w v s' := by
  intro next Q hn
  obtain ⟨u, w', ρ', h1, h2, h3⟩ := h
  unfold Oper.wp
  rcases h1 with h1 | ⟨h1, rfl⟩
  · rw [h1]; exact hn u w' ρ' h2 h3
  · rw [h1]; exact hn _ w' ρ' h2 h3

theorem pl_inj : ∀ {pl : List (Nat × Nat)}, (pl.map (·.2)).Nodup → ∀ {o o' b : Nat}, (o, b) ∈ pl → (o', b) ∈ pl → o = o' := by
  intro pl
  induction pl with
  | nil => intro _ o o' b h; simp at h
  | cons q pl ih =>
    intro hn o o' b h h'
    simp only [List.map_cons, List.nodup_cons] at hn
    rcases List.mem_cons.1 h with h | h <;> rcases List.mem_cons.1 h' with h' | h'
    · exact congrArg Prod.fst (h.trans h'.symm)
    · exact absurd (List.mem_map.2 ⟨_, h', by rw [← h]⟩) hn.1
    · exact absurd (List.mem_map.2 ⟨_, h, by rw [← h']⟩) hn.1
    · exact ih hn.2 h h'

theorem vals_list {E : Env} : ∀ {vs : List AV} {us : List Value}, Vals E vs us → ∀ p, p ∈ fxOf (listAV vs) us → Val E p.1 p.2 := by
  intro vs
  induction vs with
  | nil => intro us _ p hp; simp [listAV, fxOf] at hp
  | cons v vs ih =>
    intro us h p hp
    obtain ⟨u, r, rfl, h1, h2⟩ := h
    simp only [listAV, fxOf, List.mem_cons] at hp
    rcases hp with rfl | hp
    · exact h1
    · exact ih h2 p hp
theorem args_len {F : Nat → Prop} : ∀ {sp : SP} {x : sp.den} {us : List Value} {bs : List Nat}, Args w F sp x us bs → us.length = sp.len := by
  intro sp
  induction sp with
  | nl => intro x us bs h; rw [h.1]; rfl
  | cons A B iha ihb => intro x us bs h; obtain ⟨u, r, bs1, bs2, rfl, _, _, h2⟩ := h; simp [SP.len, ihb h2]
  | _ => intro x us bs h; exact h.elim
theorem parOk_isList : ∀ {sp : SP}, sp.parOk = true → sp.isList = true := by
  intro sp
  induction sp with
  | nl => intro _; rfl
  | cons A B iha ihb => intro h; simp only [SP.parOk, Bool.and_eq_true] at h; exact ihb h.2
  | _ => intro h; simp [SP.parOk] at h

theorem val_res {E : Env} : ∀ {c : AV} {us : List Value}, ValT E c us → Val E (resAV c) (retV us) := by
  intro c us h
  cases c with
  | cons v r =>
    obtain ⟨u, r', rfl, h1, h2⟩ := h
    cases r with
    | nl =>
      have h2 : r' = [] := h2
      subst h2
      exact .inl h1
    | cons v2 r2 =>
      obtain ⟨u2, r2', rfl, h3, h4⟩ := h2
      exact .inr ⟨_, _, rfl, rfl, ⟨u, _, rfl, h1, u2, r2', rfl, h3, h4⟩⟩
    | _ => exact h2.elim
  | nl =>
    have h : us = [] := h
    subst h
    exact .inr ⟨_, _, rfl, rfl, rfl⟩
  | _ => exact h.elim

theorem out_bif' {α : Type} {c : Bool} {p : Pg α} {v : α} (h : (bif c then p else .fail).Out s v s') : c = true ∧ p.Out s v s' := by
  cases c with
  | true => exact ⟨rfl, h⟩
  | false => exact h.elim

theorem run_execOp_call {o : Oper} {c : Call} {f : FuncId} (hop : o.op = .call c) (hcal : c.callee = .value (.func f)) : execOp a.eval o = callFunc f (c.args.map a.eval) := by
  obtain ⟨dst, op, type, pos, after, guard⟩ := o
  obtain ⟨callee, args, argTypes⟩ := c
  simp only at hop hcal
  subst hop hcal
  have : execOp a.eval { dst, op := .call { callee := .value (.func f), args := args, argTypes := argTypes }, type := type, pos, after, guard } = callFunc f (#[] ++ args.map a.eval ++ #[]) := rfl
  rw [this]; simp

theorem leads_call {f : FuncId} {g : Sig} (hM : Meets P f g) (h : Rep W0 F0 ρ s a w) {o : Oper} {us : List Value} (hex : (execOp a.eval o).run P w = (callFunc f us.toArray).run P w) {vs : List AV} {d : Nat} {v : AV}
    (hvs : Vals ⟨w, s.o, ρ⟩ vs us) (ho : (callPg g vs d).Out s v s') : Leads P W0 F0 o a w v s' := by
  intro next Q hnext
  unfold callPg at ho
  obtain ⟨hok, ho⟩ := out_bif' ho
  simp only [Sig.ok, Bool.and_eq_true] at hok
  obtain ⟨⟨hrsl, hpar⟩, hrl⟩ := hok
  obtain ⟨x, own, ro, bs, ho, hlive, hsub, hargs⟩ := exA_out h (parOk_isList hpar) hvs ho
  obtain ⟨hn, ho⟩ := out_bif' ho
  simp only [Bool.and_eq_true] at hn
  have hnd := nodupN_iff.1 hn.1
  have hap := apartN_spec hn.2
  obtain ⟨y, hy, ho⟩ := ho
  -- blocks of the function's
  have hbs : ∀ b, b ∈ bs → ∃ q c l, q ∈ own ∧ s.o q = some c ∧ c.sh ≠ .bad ∧ ρ q = some l ∧ l.b = b := by
    intro b hb
    obtain ⟨q, hq, e⟩ := List.mem_filterMap.1 (hsub.subset hb)
    obtain ⟨c, hc, hcs⟩ := hlive q hq
    cases hl : ρ q with
    | none => rw [hl] at e; simp at e
    | some l => rw [hl] at e; exact ⟨q, c, l, hq, hc, hcs, hl, by simpa using e⟩
  have hbn : bs.Nodup := by
    refine hsub.nodup ?_
    have : ∀ {l : List Nat}, l.Nodup → (∀ q ∈ l, ∃ c, s.o q = some c ∧ c.sh ≠ .bad) → (blk ρ l).Nodup := by
      intro l
      induction l with
      | nil => intro _ _; simp [blk]
      | cons q l ih =>
        intro hn hl
        simp only [List.nodup_cons] at hn
        have ih' := ih hn.2 fun q hq => hl q (List.mem_cons_of_mem _ hq)
        cases hq : ρ q with
        | none => simpa [blk, hq] using ih'
        | some k =>
          rw [blk_cons hq]
          refine List.nodup_cons.2 ⟨fun hm => ?_, ih'⟩
          obtain ⟨q', hq', e⟩ := List.mem_filterMap.1 hm
          obtain ⟨c, hc, hcs⟩ := hl q (List.mem_cons_self ..)
          obtain ⟨c', hc', hcs'⟩ := hl q' (List.mem_cons_of_mem _ hq')
          cases hk' : ρ q' with
          | none => rw [hk'] at e; simp at e
          | some k' =>
            rw [hk'] at e
            have := h.inj q q' c c' k k' hc hc' hcs hcs' hq hk' (by simpa using e.symm)
            subst this
            exact hn.1 hq'
    exact this hnd hlive
  have hout : Outside s ρ ro (· ∈ bs) := by
    intro b hb
    obtain ⟨q, c, l, hq, h1, h2, h3, h4⟩ := hbs b hb
    exact ⟨q, c, l, hap q hq, h1, h2, h3, h4⟩
  have hA := hargs _ (.inr hout)
  have hcall := hM w x _ bs hbn hA y hy
  have hlen := args_len hA
  -- what the caller finds
  have main : ∀ u w', (∃ rs bs1 bs2, Found g x us bs w y u w' rs bs1 bs2) → next (a.put o.dst u) w' := by
    rintro u w' ⟨rs, bs1, bs2, hF⟩
    obtain ⟨ws, l, n, τ, pl, ho, hB⟩ := reO_out (ρ := ρ) (wold := w) (s := s) hpar hF.outs hlen (vals_list hvs) ho
    obtain ⟨cv, l', n', τ', pl', ho, hL, hLE⟩ := inA_out hrl hF.rs ho
    obtain ⟨hnames, ho⟩ := out_bif' ho
    have hnames := nodupN_iff.1 hnames
    rw [List.nodup_append] at hnames
    obtain ⟨nws, nrest, dis1⟩ := hnames
    rw [List.nodup_append] at nrest
    obtain ⟨nks, nnew, dis2⟩ := nrest
    rw [List.nodup_append] at nnew
    obtain ⟨nl1, nl2, dis3⟩ := nnew
    obtain ⟨s1, ho, n1, t1, w1, o1⟩ := out_wrAll nws ho
    obtain ⟨s2, ho, n2, t2, w2, o2⟩ := out_killAll ho
    obtain ⟨s3, ho, n3, t3, w3, o3⟩ := out_newAll ho
    obtain ⟨rfl, rfl⟩ := ho
    -- the names
    let N : Nat → Prop := fun q => q ∈ namesOf (l ++ l')
    have hNl : ∀ q, q ∈ namesOf (l ++ l') ↔ q ∈ namesOf l ∨ q ∈ namesOf l' := by intro q; simp [namesOf]
    have hws_not : ∀ q, q ∈ namesOf ws → q ∉ without own (namesOf ws) ∧ q ∉ namesOf (l ++ l') := by
      intro q hq
      refine ⟨fun hk => (mem_without.1 hk).2 hq, fun hk => ?_⟩
      have := dis1 q hq
      rcases (hNl q).1 hk with hk | hk
      · exact this q (List.mem_append_right _ (List.mem_append_left _ hk)) rfl
      · exact this q (List.mem_append_right _ (List.mem_append_right _ hk)) rfl
    have hk_not : ∀ q, q ∈ without own (namesOf ws) → q ∉ namesOf (l ++ l') := by
      intro q hq hk
      rcases (hNl q).1 hk with hk | hk
      · exact dis2 q hq q (List.mem_append_left _ hk) rfl
      · exact dis2 q hq q (List.mem_append_right _ hk) rfl
    -- the new state's objects
    have ows : ∀ q, q ∈ ws → s'.o q.1 = some q.2 ∧ ∃ d, s.o q.1 = some d ∧ d.dead = false ∧ q.2.sh = d.sh := by
      intro q hq
      have hm : q.1 ∈ namesOf ws := List.mem_map.2 ⟨q, hq, rfl⟩
      obtain ⟨g1, g2⟩ := hws_not _ hm
      exact ⟨by rw [o3 _ g2, o2 _ g1]; exact (w1 q hq).1, (w1 q hq).2⟩
    have oks : ∀ q, q ∈ without own (namesOf ws) → s'.o q = some .top := by
      intro q hq
      rw [o3 _ (hk_not q hq)]; exact (w2 q hq).1
    have onew : ∀ q, q ∈ l ++ l' → s'.o q.1 = some q.2 ∧ s.o q.1 = none := by
      intro q hq
      refine ⟨(w3 q hq).1, ?_⟩
      have hm : q.1 ∈ namesOf (l ++ l') := List.mem_map.2 ⟨q, hq, rfl⟩
      have g1 : q.1 ∉ without own (namesOf ws) := fun hk => hk_not _ hk hm
      have g2 : q.1 ∉ namesOf ws := fun hk => (hws_not _ hk).2 hm
      have := (w3 q hq).2
      rw [o2 _ g1, o1 _ g2] at this
      exact this
    have ooth : ∀ q, q ∉ namesOf ws → q ∉ without own (namesOf ws) → q ∉ namesOf (l ++ l') → s'.o q = s.o q := by
      intro q g1 g2 g3
      rw [o3 _ g3, o2 _ g2, o1 _ g1]
    have htm : ∀ t, s'.t t = s.t t := fun t => by rw [t3, t2, t1]
    -- where the new objects lie
    let ρ' : Nat → Option Loc := fun q => if memN q (namesOf (l ++ l')) then (if q < n then τ q else τ' q) else ρ q
    have rnew : ∀ q, q ∈ namesOf (l ++ l') → ρ' q = if q < n then τ q else τ' q := fun q hq => by
      show (if memN q (namesOf (l ++ l')) then _ else _) = _
      rw [if_pos (memN_iff.2 hq)]
    have rold : ∀ q, q ∉ namesOf (l ++ l') → ρ' q = ρ q := fun q hq => by
      show (if memN q (namesOf (l ++ l')) then _ else _) = _
      rw [if_neg (by rw [memN_false.2 hq]; simp)]
    have rl : ∀ q, q ∈ l → ρ' q.1 = τ q.1 := fun q hq => by
      rw [rnew _ ((hNl _).2 (.inl (List.mem_map.2 ⟨q, hq, rfl⟩))), if_pos (hB.mem q hq).2]
    have rl' : ∀ q, q ∈ l' → ρ' q.1 = τ' q.1 := fun q hq => by
      have := (hL.mem q hq).1
      rw [rnew _ ((hNl _).2 (.inr (List.mem_map.2 ⟨q, hq, rfl⟩))), if_neg (by omega)]
    have rws : ∀ q, q ∈ ws → ρ' q.1 = ρ q.1 := fun q hq => rold _ (hws_not _ (List.mem_map.2 ⟨q, hq, rfl⟩)).2
    have wlive : ∀ p, p ∈ ws → ∀ d, s.o p.1 = some d → d.sh ≠ .bad := by
      intro p hp d hd
      obtain ⟨_, d', h1, h2, _⟩ := ows p hp
      rw [h1] at hd; cases hd
      exact AV.dead_sh h2
    let E' : Env := ⟨w', s'.o, ρ'⟩
    have onl : OnE E' l τ := fun p hp => ⟨(onew p (List.mem_append_left _ hp)).1, rl p hp⟩
    have onl' : OnE E' l' τ' := fun p hp => ⟨(onew p (List.mem_append_right _ hp)).1, rl' p hp⟩
    have onws : OnE E' ws ρ := fun p hp => ⟨(ows p hp).1, rws p hp⟩
    obtain ⟨okl, okws⟩ := hB.ok E' rfl onl onws wlive
    obtain ⟨hval, okl'⟩ := hLE E' rfl onl' (.inl hrsl)
    -- pairs of names and blocks
    have plsub : ((pl' ++ pl).map (·.2)).Sublist (bs1 ++ bs2) := by rw [List.map_append]; exact hL.sub.append hB.sub
    have plnd := plsub.nodup hF.nodup
    have plnew : ∀ q k, q ∈ namesOf (l ++ l') → ρ' q = some k → (q, k.b) ∈ pl' ++ pl := by
      intro q k hq hk
      rcases (hNl q).1 hq with hq1 | hq1
      · obtain ⟨p, hp, rfl⟩ := List.mem_map.1 hq1
        rw [rl p hp] at hk
        exact List.mem_append_right _ (hB.blk _ k hq1 hk)
      · obtain ⟨p, hp, rfl⟩ := List.mem_map.1 hq1
        rw [rl' p hp] at hk
        exact List.mem_append_left _ (hL.blk _ k hq1 hk)
    have plold : ∀ q, q ∈ ws → ∃ k, ρ q.1 = some k ∧ (q.1, k.b) ∈ pl' ++ pl := by
      intro q hq
      obtain ⟨k, h1, h2⟩ := hB.old q hq (wlive q hq)
      exact ⟨k, h1, List.mem_append_right _ h2⟩
    have plfrom : ∀ q b, (q, b) ∈ pl' ++ pl → b ∈ bs ∨ w.heap.size ≤ b := fun q b hq => hF.from' b (plsub.subset (List.mem_map.2 ⟨_, hq, rfl⟩))
    -- the objects that live on
    have alive : ∀ q c, s'.o q = some c → c.sh ≠ .bad → (q ∈ namesOf (l ++ l') ∧ (q, c) ∈ l ++ l') ∨ ((q, c) ∈ ws ∧ q ∉ namesOf (l ++ l')) ∨ (q ∉ own ∧ q ∉ namesOf ws ∧ q ∉ namesOf (l ++ l') ∧ s.o q = some c) := by
      intro q c hq hc
      by_cases g1 : q ∈ namesOf (l ++ l')
      · obtain ⟨p, hp, rfl⟩ := List.mem_map.1 g1
        have := (onew p hp).1
        rw [this] at hq; cases hq
        exact .inl ⟨g1, hp⟩
      · by_cases g2 : q ∈ namesOf ws
        · obtain ⟨p, hp, rfl⟩ := List.mem_map.1 g2
          have := (ows p hp).1
          rw [this] at hq; cases hq
          exact .inr (.inl ⟨hp, g1⟩)
        · by_cases g3 : q ∈ without own (namesOf ws)
          · rw [oks q g3] at hq; cases hq; simp [AV.sh] at hc
          · have g4 : q ∉ own := fun hk => g3 (mem_without.2 ⟨hk, g2⟩)
            rw [ooth q g2 g3 g1] at hq
            exact .inr (.inr ⟨g4, g2, g1, hq⟩)
    have oldblk : ∀ q c k, q ∉ own → s.o q = some c → c.sh ≠ .bad → ρ q = some k → k.b ∉ bs := by
      intro q c k hq hc hcs hk hb
      obtain ⟨q', c', k', h1, h2, h3, h4, h5⟩ := hbs _ hb
      have := h.inj q q' c c' k k' hc h2 hcs h3 hk h4 h5.symm
      subst this
      exact hq h1
    have hExt : Ext ⟨w, s.o, ρ⟩ E' := by
      refine ⟨fun b ob hb hob => ?_, fun q c hq => ?_⟩
      · have hlt : b < w.heap.size := (Array.getElem?_eq_some_iff.1 hob).1
        have hnb : b ∉ bs := fun hm => by
          obtain ⟨q, c, k, _, h2, h3, h4, h5⟩ := hbs b hm
          exact hb ⟨q, c, k, h2, h3, h4, h5⟩
        refine ⟨(hF.fr.block b hlt hnb).trans hob, ?_⟩
        rintro ⟨q, c, k, hq, hc, hk, rfl⟩
        have hq : s'.o q = some c := hq
        have hk : ρ' q = some k := hk
        rcases alive q c hq hc with ⟨g1, g2⟩ | ⟨g1, g2⟩ | ⟨g1, g2, g3, g4⟩
        · rcases plfrom q _ (plnew q k g1 hk) with e | e
          · exact hnb e
          · omega
        · obtain ⟨_, d, e1, e2, _⟩ := ows _ g1
          rw [rold q g2] at hk
          exact hb ⟨q, d, k, e1, AV.dead_sh e2, hk, rfl⟩
        · rw [rold q g3] at hk
          exact hb ⟨q, c, k, g4, hc, hk, rfl⟩
      · have hq : s.o q = some c := hq
        have keep : ∀ l cells T fr, ρ q = some l → w.heap[l.b]? = some (.cells cells T fr) → ∃ cells' fr', w'.heap[l.b]? = some (.cells cells' T fr') ∧ cells.size ≤ cells'.size := fun l cells T fr _ hh => hF.fr.keep _ _ _ _ hh
        have g1 : q ∉ namesOf (l ++ l') := fun hm => by
          obtain ⟨p, hp, rfl⟩ := List.mem_map.1 hm
          have := (onew p hp).2
          rw [this] at hq; cases hq
        by_cases g2 : q ∈ namesOf ws
        · obtain ⟨p, hp, rfl⟩ := List.mem_map.1 g2
          obtain ⟨e0, d, e1, e2, e3⟩ := ows p hp
          rw [e1] at hq; cases hq
          exact ⟨p.2, e0, .inr ⟨AV.dead_sh e2, e3, rws p hp, keep⟩⟩
        · by_cases g3 : q ∈ without own (namesOf ws)
          · exact ⟨.top, oks q g3, .inl rfl⟩
          · refine ⟨c, (ooth q g2 g3 g1).trans hq, ?_⟩
            by_cases hb : c.sh = .bad
            · exact .inl hb
            · exact .inr ⟨hb, rfl, rold q g1, keep⟩
    refine hnext u w' ρ' ⟨?_, h.defers, fun t => ?_, fun q c hq hc => ?_, ?_, ?_, ?_, fun p hp => hExt.val (h.fx p hp)⟩ (by rw [hF.ret]; exact val_res hval)
    · rw [n3, n2, n1]; exact h.size
    · rw [htm]; exact hExt.val (h.tm t)
    · rcases alive q c hq hc with ⟨g1, g2⟩ | ⟨g1, g2⟩ | ⟨g1, g2, g3, g4⟩
      · rcases List.mem_append.1 g2 with g2 | g2
        · exact okl _ g2
        · exact okl' _ g2
      · exact okws _ g1
      · rcases h.ob q c g4 hc with ⟨k, cells, T, fr, cs, e1, e2, e3, e4, e5, e6⟩ | e
        · have hlt : k.b < w.heap.size := (Array.getElem?_eq_some_iff.1 e2).1
          exact .inl ⟨k, cells, T, fr, cs, (rold q g3).trans e1, (hF.fr.block _ hlt (oldblk q c k g1 g4 hc e1)).trans e2, hExt.ce e3, e4, e5, e6⟩
        · exact .inr ⟨(rold q g3).trans e.1, e.2⟩
    · intro q q' c c' k k' hq hq' hc hc' hk hk' hbb
      have new_old : ∀ {q q' : Nat} {c c' : AV} {k k' : Loc}, q ∈ namesOf (l ++ l') → ρ' q = some k → q' ∉ own → q' ∉ namesOf (l ++ l') → s.o q' = some c' → c'.sh ≠ .bad → ρ' q' = some k' → k.b = k'.b → False := by
        intro q q' c c' k k' g1 hk f1 f3 f4 hc' hk' hbb
        rw [rold q' f3] at hk'
        rcases plfrom q _ (plnew q k g1 hk) with e | e
        · exact oldblk q' c' k' f1 f4 hc' hk' (hbb ▸ e)
        · have := h.dom q' c' k' f4 hc' hk'
          omega
      rcases alive q c hq hc with ⟨g1, g2⟩ | ⟨g1, g2⟩ | ⟨g1, g2, g3, g4⟩ <;> rcases alive q' c' hq' hc' with ⟨f1, f2⟩ | ⟨f1, f2⟩ | ⟨f1, f2, f3, f4⟩
      · have e1 := plnew q k g1 hk
        have e2 := plnew q' k' f1 hk'
        rw [hbb] at e1
        exact pl_inj plnd e1 e2
      · have e1 := plnew q k g1 hk
        obtain ⟨k2, e2, e3⟩ := plold _ f1
        rw [rold q' f2] at hk'
        have : k2 = k' := by
          have e2 : ρ q' = some k2 := e2
          rw [e2] at hk'; exact Option.some.inj hk'
        subst this
        rw [hbb] at e1
        exact pl_inj plnd e1 e3
      · exact (new_old (c := c) g1 hk f1 f3 f4 hc' hk' hbb).elim
      · have e1 := plnew q' k' f1 hk'
        obtain ⟨k2, e2, e3⟩ := plold _ g1
        rw [rold q g2] at hk
        have : k2 = k := by
          have e2 : ρ q = some k2 := e2
          rw [e2] at hk; exact Option.some.inj hk
        subst this
        rw [← hbb] at e1
        exact pl_inj plnd e3 e1
      · rw [rold q g2] at hk; rw [rold q' f2] at hk'
        obtain ⟨_, d, e1, e2, _⟩ := ows _ g1
        obtain ⟨_, d', e1', e2', _⟩ := ows _ f1
        exact h.inj q q' d d' k k' e1 e1' (AV.dead_sh e2) (AV.dead_sh e2') hk hk' hbb
      · rw [rold q g2] at hk; rw [rold q' f3] at hk'
        obtain ⟨_, d, e1, e2, _⟩ := ows _ g1
        exact h.inj q q' d c' k k' e1 f4 (AV.dead_sh e2) hc' hk hk' hbb
      · exact (new_old (c := c') f1 hk' g1 g3 g4 hc hk hbb.symm).elim
      · rw [rold q g3] at hk; rw [rold q' f2] at hk'
        obtain ⟨_, d', e1', e2', _⟩ := ows _ f1
        exact h.inj q q' c d' k k' g4 e1' hc (AV.dead_sh e2') hk hk' hbb
      · rw [rold q g3] at hk; rw [rold q' f3] at hk'
        exact h.inj q q' c c' k k' g4 f4 hc hc' hk hk' hbb
    · intro q c k hq hc hk
      rcases alive q c hq hc with ⟨g1, g2⟩ | ⟨g1, g2⟩ | ⟨g1, g2, g3, g4⟩
      · rcases plfrom q _ (plnew q k g1 hk) with e | e
        · obtain ⟨q', c', k', _, e2, e3, e4, e5⟩ := hbs _ e
          rw [← e5]; exact h.own q' c' k' e2 e3 e4
        · right; have := h.fr.size; omega
      · obtain ⟨_, d, e1, e2, _⟩ := ows _ g1
        rw [rold q g2] at hk
        exact h.own q d k e1 (AV.dead_sh e2) hk
      · rw [rold q g3] at hk
        exact h.own q c k g4 hc hk
    · refine ⟨hF.fr.os.trans h.fr.os, hF.fr.tape.trans h.fr.tape, hF.fr.output.trans h.fr.output, Nat.le_trans h.fr.size hF.fr.size, fun b hb hnF => ?_, fun b cells T fr hb => ?_⟩
      · have hnb : b ∉ bs := fun hm => by
          obtain ⟨q, c, k, _, h2, h3, h4, h5⟩ := hbs b hm
          rcases h.own q c k h2 h3 h4 with e | e
          · rw [h5] at e; exact hnF e
          · rw [h5] at e; omega
        rw [hF.fr.block b (Nat.lt_of_lt_of_le hb h.fr.size) hnb]
        exact h.fr.block b hb hnF
      · obtain ⟨c1, f1, e1, e2⟩ := h.fr.keep b cells T fr hb
        obtain ⟨c2, f2, e3, e4⟩ := hF.fr.keep b c1 T f1 e1
        exact ⟨c2, f2, e3, by omega⟩
  unfold Oper.wp
  rw [hex]
  unfold CallsF at hcall
  generalize (callFunc f us.toArray).run P w = res at hcall ⊢
  cases res with
  | halt e w' => exact hcall.elim
  | ok nx w' =>
    cases nx with
    | value u => exact main u w' hcall
    | enter f' args => 
      exact Calls.mono hcall fun e w'' he => by
        cases e with
        | returned u => exact main u w'' he
        | _ => exact he.elim
    | _ => exact hcall.elim
end
end Go.Ev

/- Regions: the operations in their order, and in every order. -/
set_option linter.unusedVariables false
set_option linter.unusedSimpArgs false
namespace Go.Ev
open Go

/-- a function's body does what a program of reads and writes says -/
structure Inlines (P : Program) (f : FuncId) (p : List AV → Nat → Pg AV) : Prop where
  run : ∀ {W0 : World} {F0 : Base} {ρ : Nat → Option Loc} {s s' : St} {a : Act} {w : World} {o : Oper} {vs : List AV} {us : List Value} {nx : Nat} {v : AV}, Rep W0 F0 ρ s a w →
    (execOp a.eval o).run P w = (callFunc f us.toArray).run P w → Vals ⟨w, s.o, ρ⟩ vs us → (p vs nx).Out s v s' → Leads P W0 F0 o a w v s'

/-- what the theorems ask of a program's tables -/
structure CxOK (P : Program) (C : Cx) : Prop where
  D : DOk P C
  Ds : ∀ T e, ((C.D T).k = .sl e ∨ ∃ m, (C.D T).k = .arr m e) → (C.D e).k ≠ .other
  G : ∀ f g, C.G f = some g → Meets P f g
  I : ∀ f p, C.I f = some p → Inlines P f p
  M : ∀ T n f, C.M T n = some f → ∀ (v : Value) (w : World), (method (P.types.size + Made.depth) T v n).run P w = .ok (f, v) w

structure Same (s s' : St) : Prop where
  n : s'.n = s.n
  t : ∀ x, s'.t x = s.t x
  o : ∀ x, s'.o x = s.o x
theorem Same.refl (s : St) : Same s s := ⟨rfl, fun _ => rfl, fun _ => rfl⟩
theorem Same.symm {s t : St} (h : Same s t) : Same t s := ⟨h.n.symm, fun x => (h.t x).symm, fun x => (h.o x).symm⟩
theorem Same.trans {s t u : St} (h : Same s t) (k : Same t u) : Same s u := ⟨k.n.trans h.n, fun x => (k.t x).trans (h.t x), fun x => (k.o x).trans (h.o x)⟩
theorem Same.setT {s t : St} (h : Same s t) (d : Nat) (v : AV) : Same (s.setT d v) (t.setT d v) :=
  ⟨h.n, fun x => by rw [St.setT_t, St.setT_t]; split; rfl; exact h.t x, h.o⟩
theorem Same.setO {s t : St} (h : Same s t) (d : Nat) (v : AV) : Same (s.setO d v) (t.setO d v) :=
  ⟨h.n, h.t, fun x => by rw [St.setO_o, St.setO_o]; split; rfl; exact h.o x⟩
theorem Same.know {s t : St} (h : Same s t) {d : Nat} {v : AV} (hv : s.t d = v) : Same s (t.setT d v) :=
  ⟨h.n, fun x => by rw [St.setT_t]; split; (rename_i e; subst e; exact hv.symm); exact h.t x, h.o⟩

theorem Rep.same {W0 : World} {F0 : Base} {ρ : Nat → Option Loc} {s s' : St} {a : Act} {w : World} (h : Rep W0 F0 ρ s a w) (hs : Same s s') : Rep W0 F0 ρ s' a w := h.congr hs.n hs.t (funext hs.o)

theorem runK_out {α R : Type} {r : R} : ∀ {p : Pg α} {s s0 : St} {k : α → St → Option R}, Same s0 s → p.runK s k = some r → ∃ v s1 s1', p.Out s0 v s1 ∧ Same s1 s1' ∧ k v s1' = some r := by
  intro p
  induction p with
  | ret v => intro s s0 k hs h; exact ⟨v, s0, s, ⟨rfl, rfl⟩, hs, h⟩
  | fail => intro s s0 k hs h; simp [Pg.runK] at h
  | rdT t f ih => intro s s0 k hs h; simp only [Pg.runK] at h; rw [hs.t t] at h; exact ih _ hs h
  | rdO o f ih =>
    intro s s0 k hs h
    simp only [Pg.runK] at h
    rw [hs.o o] at h
    cases hc : s0.o o with
    | none => rw [hc] at h; simp at h
    | some c =>
      rw [hc] at h
      cases hd : c.dead with
      | true => simp [hd] at h
      | false =>
        simp only [hd, cond_false] at h
        obtain ⟨v, s1, s1', h1, h2, h3⟩ := ih c hs h
        exact ⟨v, s1, s1', ⟨c, hc, hd, h1⟩, h2, h3⟩
  | wrO o c p ih =>
    intro s s0 k hs h
    simp only [Pg.runK] at h
    rw [hs.o o] at h
    cases hc : s0.o o with
    | none => rw [hc] at h; simp at h
    | some d =>
      rw [hc] at h
      obtain ⟨v, s1, s1', h1, h2, h3⟩ := ih (hs.setO o c) h
      exact ⟨v, s1, s1', ⟨⟨d, hc⟩, h1⟩, h2, h3⟩
  | new o c p ih =>
    intro s s0 k hs h
    simp only [Pg.runK] at h
    rw [hs.o o] at h
    cases hc : s0.o o with
    | some d => rw [hc] at h; simp at h
    | none =>
      rw [hc] at h
      obtain ⟨v, s1, s1', h1, h2, h3⟩ := ih (hs.setO o c) h
      exact ⟨v, s1, s1', ⟨hc, h1⟩, h2, h3⟩
  | br t p q ihp ihq =>
    intro s s0 k hs h
    simp only [Pg.runK] at h
    split at h
    · rename_i b hb
      rw [hs.t t] at hb
      cases b with
      | true =>
        obtain ⟨v, s1, s1', h1, h2, h3⟩ := ihp (hs.know hb) h
        exact ⟨v, s1, s1', ⟨true, hb, h1⟩, h2, h3⟩
      | false =>
        obtain ⟨v, s1, s1', h1, h2, h3⟩ := ihq (hs.know hb) h
        exact ⟨v, s1, s1', ⟨false, hb, h1⟩, h2, h3⟩
    · simp at h
  | test c d p ih =>
    intro s s0 k hs h
    simp only [Pg.runK] at h
    by_cases hc : c
    · rw [if_pos hc] at h
      obtain ⟨v, s1, s1', h1, h2, h3⟩ := ih hs h
      exact ⟨v, s1, s1', ⟨hc, h1⟩, h2, h3⟩
    · rw [if_neg hc] at h; simp at h
  | bind T m f ih =>
    intro s s0 k hs h
    simp only [Pg.runK] at h
    cases m with
    | none => simp at h
    | some x =>
      obtain ⟨v, s1, s1', h1, h2, h3⟩ := ih x hs h
      exact ⟨v, s1, s1', ⟨x, rfl, h1⟩, h2, h3⟩
  | opt T m p f ihp ihf =>
    intro s s0 k hs h
    cases m with
    | none =>
      have h : p.runK s k = some r := h
      obtain ⟨v, s1, s1', h1, h2, h3⟩ := ihp hs h
      exact ⟨v, s1, s1', .inl ⟨rfl, h1⟩, h2, h3⟩
    | some x =>
      have h : (f x).runK s k = some r := h
      obtain ⟨v, s1, s1', h1, h2, h3⟩ := ihf x hs h
      exact ⟨v, s1, s1', .inr ⟨x, rfl, h1⟩, h2, h3⟩
  | sel b p q ihp ihq =>
    intro s s0 k hs h
    cases b with
    | true =>
      obtain ⟨v, s1, s1', h1, h2, h3⟩ := ihp hs h
      exact ⟨v, s1, s1', h1, h2, h3⟩
    | false =>
      obtain ⟨v, s1, s1', h1, h2, h3⟩ := ihq hs h
      exact ⟨v, s1, s1', h1, h2, h3⟩

section
variable {P : Program} {C : Cx} {W0 : World} {F0 : Base} {ρ : Nat → Option Loc} {s s' : St} {a : Act} {w : World}

theorem val_iface {E : Env} {T : Nat} {x : AV} {u : Value} (h : Val E (.iface T x) u) : ∃ r, u = .iface T r ∧ Val E x r := by
  obtain ⟨r, hr, hs, hx⟩ := h.ce rfl
  exact ⟨r, by simpa using hr, Val.leaf hs hx⟩

theorem leads_fn (hC : CxOK P C) (h : Rep W0 F0 ρ s a w) {o : Oper} {f d : Nat} {vs : List AV} {us : List Value} {v : AV} (hex : (execOp a.eval o).run P w = (callFunc f us.toArray).run P w) (hvs : Vals ⟨w, s.o, ρ⟩ vs us)
    (ho : (fnPg C f vs d).Out s v s') : Leads P W0 F0 o a w v s' := by
  unfold fnPg at ho
  split at ho
  · rename_i g hg
    exact leads_call (hC.G f g hg) h hex hvs ho
  · split at ho
    · rename_i p hp
      exact (hC.I f p hp).run h hex hvs ho
    · exact ho.elim

theorem run_execOp_invoke {o : Oper} {c : Call} {r : Operand} {n : String} (hop : o.op = .call c) (hcal : c.callee = .invoke r n) : (execOp a.eval o).run P w = (callMethod (a.eval r) n (c.args.map a.eval)).run P w := by
  have e : ((#[a.eval r] ++ c.args.map a.eval).extract 1 (#[a.eval r] ++ c.args.map a.eval).size) = c.args.map a.eval := by simp
  have e0 : (#[a.eval r] ++ c.args.map a.eval)[0]? = some (a.eval r) := by
    rw [Array.getElem?_append_left (by simp)]; rfl
  have e1 : (c.args.map a.eval).extract 0 c.args.size = c.args.map a.eval := by
    have := Array.extract_size (xs := c.args.map a.eval)
    rwa [Array.size_map] at this
  simp [execOp, hop, resolve, hcal, invoke, e0, e1]

theorem leads_op (hC : CxOK P C) (h : Rep W0 F0 ρ s a w) {o : Oper} {v : AV} (ho : (opPg C o).Out s v s') : Leads P W0 F0 o a w v s' := by
  by_cases hc : ∃ c f, o.op = .call c ∧ c.callee = .value (.func f)
  · obtain ⟨c, f, hop, hcal⟩ := hc
    unfold opPg at ho
    rw [hop] at ho
    dsimp only at ho
    rw [hcal] at ho
    dsimp only at ho
    obtain ⟨vs, hvs, ho⟩ := out_rdXs h ho
    exact leads_fn hC h (by rw [run_execOp_call hop hcal]; congr 2; rw [← Array.toList_map]) hvs ho
  · by_cases hi : ∃ c r n, o.op = .call c ∧ c.callee = .invoke r n
    · obtain ⟨c, r, n, hop, hcal⟩ := hi
      unfold opPg at ho
      rw [hop] at ho
      dsimp only at ho
      rw [hcal] at ho
      dsimp only at ho
      obtain ⟨rv, hrv, ho⟩ := out_rdX h ho
      split at ho
      · rename_i T x
        obtain ⟨u, hu, hx⟩ := val_iface hrv
        split at ho
        · rename_i f hf
          obtain ⟨vs, hvs, ho⟩ := out_rdXs h ho
          have hvs' : Vals ⟨w, s.o, ρ⟩ (x :: vs) (u :: c.args.toList.map a.eval) := by exact ⟨u, _, rfl, hx, hvs⟩
          refine leads_fn hC h (us := u :: c.args.toList.map a.eval) ?_ hvs' ho
          rw [run_execOp_invoke hop hcal, hu]
          have hmt := hC.M T n f hf u w
          have e2 : #[u] ++ c.args.map a.eval = (u :: c.args.toList.map a.eval).toArray := by
            rw [← Array.toList_map]; apply Array.ext'; simp
          simp only [callMethod]
          rw [← e2]
          simp [hmt]
        · exact ho.elim
      · exact ho.elim
    · exact (give_op hC.D hC.Ds h (fun c f h1 h2 => hc ⟨c, f, h1, h2⟩) (fun c r n h1 h2 => hi ⟨c, r, n, h1, h2⟩) ho).leads

theorem val_undef (E : Env) : Val E (.tup .nl) undef := .inr ⟨.nl, #[], rfl, rfl, rfl⟩
theorem val_undef_eq {E : Env} {u : Value} (h : Val E (.tup .nl) u) : u = undef := by
  rcases h with (h | ⟨h, _⟩ | ⟨_, h, _⟩) | ⟨c, us, h1, h2, h3⟩
  · cases h
  · simp [AV.agg] at h
  · simp [AV.sh] at h
  · cases h1
    have h3 : us.toList = [] := h3
    rw [h2]
    have : us = #[] := by cases us; simpa using h3
    rw [this]; rfl

theorem yields_not {W0 : World} {F0 : Base} {ρ : Nat → Option Loc} {s : St} {a : Act} {w : World} {ops : Array Oper} (h : Rep W0 F0 ρ s a w) {j t : Nat} (hj : dstOf ops.toList j = some t) (hb : s.t t = .tup .nl) : yielded ops a.tmps j = none := by
  have ht := h.tm t
  rw [hb] at ht
  have e := val_undef_eq ht
  unfold dstOf at hj
  unfold yielded
  rw [Array.getElem?_toList] at hj
  cases ho : ops[j]? with
  | none => rw [ho] at hj; simp at hj
  | some o =>
    rw [ho] at hj
    have hj : o.dst = some t := hj
    by_cases hlt : t < a.tmps.size
    · simp [Array.getD, hlt] at e
      simp [hj, hlt, e, undef]
    · simp [hj, hlt]

theorem undef_ne_bool (b : Bool) : undef ≠ Value.bool b := by simp [undef]

theorem yields {ops : Array Oper} (h : Rep W0 F0 ρ s a w) {j t : Nat} {b : Bool} (hj : dstOf ops.toList j = some t) (hb : s.t t = .bool b) : yielded ops a.tmps j = some b := by
  have ht := h.tm t
  rw [hb] at ht
  have e : a.tmps.getD t undef = .bool b := ht.bool_eq
  have e2 : a.tmps[t]? = some (.bool b) := by
    by_cases hlt : t < a.tmps.size
    · simp [Array.getD, hlt] at e
      simp [hlt, e]
    · simp [Array.getD, hlt] at e
      exact absurd e (undef_ne_bool b)
  unfold dstOf at hj
  unfold yielded
  rw [Array.getElem?_toList] at hj
  cases ho : ops[j]? with
  | none => rw [ho] at hj; simp at hj
  | some o => 
    rw [ho] at hj
    have hj : o.dst = some t := hj
    simp [hj, e2]

/-- one operation of a region, its guard looked at, its place written -/
def StepTo (C : Cx) (ops : List Oper) (o : Oper) (s s2 : St) : Prop := ∃ v s1, (guardPg ops o (opPg C o)).Out s v s1 ∧ putDst o v s1 = some s2

theorem put_rep {o : Oper} {v : AV} {s1 s2 : St} {u : Value} (h : Rep W0 F0 ρ s1 a w) (hv : Val ⟨w, s1.o, ρ⟩ v u) (hp : putDst o v s1 = some s2) : Rep W0 F0 ρ s2 (a.put o.dst u) w := by
  unfold putDst at hp
  cases hd : o.dst with
  | none => rw [hd] at hp; simp at hp; subst hp; exact h
  | some d =>
    rw [hd] at hp
    dsimp only at hp
    cases hlt : Nat.blt d s1.n with
    | false => simp [hlt] at hp
    | true =>
      simp [hlt] at hp
      subst hp
      exact h.setT (by simpa using hlt) hv

theorem step_wp (hC : CxOK P C) (h : Rep W0 F0 ρ s a w) {ops : Array Oper} {o : Oper} {s2 : St} (hs : StepTo C ops.toList o s s2) {K : Act → World → Prop} {Q : Exit → Act → World → Prop}
    (hK : ∀ a' w' ρ', Rep W0 F0 ρ' s2 a' w' → K a' w') : if Region.wanted o (yielded ops a.tmps) then o.wp P a w K Q else K (a.put o.dst undef) w := by
  obtain ⟨v, s1, ho, hp⟩ := hs
  have go : (opPg C o).Out s v s1 → o.wp P a w K Q := fun ho => leads_op hC h ho K Q fun u w' ρ' hr hv => hK _ _ ρ' (put_rep hr hv hp)
  unfold guardPg at ho
  unfold Region.wanted
  cases hg : o.guard with
  | none => rw [hg] at ho; simp only [if_true]; exact go ho
  | some gd =>
    obtain ⟨j, want⟩ := gd
    rw [hg] at ho
    dsimp only at ho
    cases hd : dstOf ops.toList j with
    | none => rw [hd] at ho; exact ho.elim
    | some t =>
      rw [hd] at ho
      dsimp only at ho
      have skip : (∃ b, s.t t = .bool b ∧ b ≠ want) → v = .tup .nl ∧ s1 = s → (if (yielded ops a.tmps j == some want) = true then o.wp P a w K Q else K (a.put o.dst undef) w) := by
        rintro ⟨b, hb, hne⟩ ⟨rfl, rfl⟩
        rw [yields h hd hb, if_neg (by simpa using hne)]
        exact hK _ _ ρ (put_rep h (val_undef _) hp)
      have run : s.t t = .bool want → (opPg C o).Out s v s1 → (if (yielded ops a.tmps j == some want) = true then o.wp P a w K Q else K (a.put o.dst undef) w) := by
        intro hb ho
        rw [yields h hd hb, if_pos (by simp)]
        exact go ho
      simp only [Pg.Out] at ho
      split at ho
      · rename_i hst
        obtain ⟨rfl, rfl⟩ := ho
        have hy := yields_not h hd hst
        rw [if_neg (by simp [hy])]
        exact hK _ _ ρ (put_rep h (val_undef _) hp)
      cases want with
      | true =>
        simp only [if_true] at ho
        obtain ⟨b, hb, ho⟩ := ho
        cases b with
        | true => exact run hb ho
        | false => exact skip ⟨false, hb, by simp⟩ ho
      | false =>
        simp only [Bool.false_eq_true, if_false] at ho
        obtain ⟨b, hb, ho⟩ := ho
        cases b with
        | true => exact skip ⟨true, hb, by simp⟩ ho
        | false => exact run hb ho

theorem opsK_wp (hC : CxOK P C) {ops : Array Oper} {R : Type} {r : R} {k : St → Option R} {Q : Exit → Act → World → Prop}
    (hQ : ∀ s' a' w' ρ', Rep W0 F0 ρ' s' a' w' → k s' = some r → Q .normal a' w') : ∀ {l : List Oper} {s : St} {a : Act} {w : World} {ρ : Nat → Option Loc}, Rep W0 F0 ρ s a w → opsK C ops.toList l s k = some r → wpList P ops Q l a w := by
  intro l
  induction l with
  | nil => intro s a w ρ h hk; exact hQ s a w ρ h hk
  | cons o l ih =>
    intro s a w ρ h hk
    simp only [opsK] at hk
    obtain ⟨v, s1, s1', ho, hs, hk⟩ := runK_out (Same.refl s) hk
    cases hp : putDst o v s1' with
    | none => rw [hp] at hk; simp at hk
    | some s2 =>
      rw [hp] at hk
      dsimp only at hk
      have hp' : ∃ s2', putDst o v s1 = some s2' ∧ Same s2' s2 := by
        unfold putDst at hp ⊢
        cases hd : o.dst with
        | none => rw [hd] at hp; simp at hp; subst hp; exact ⟨s1, rfl, hs⟩
        | some d =>
          rw [hd] at hp
          dsimp only at hp ⊢
          rw [hs.n] at hp
          cases hlt : Nat.blt d s1.n with
          | false => simp [hlt] at hp
          | true => simp [hlt] at hp; subst hp; exact ⟨_, by simp [hlt], hs.setT d v⟩
      obtain ⟨s2', hp', hs2⟩ := hp'
      have := step_wp hC h (ops := ops) (Q := Q) (K := wpList P ops Q l) ⟨v, s1, ho, hp'⟩ fun a' w' ρ' hr => ih (hr.same hs2) hk
      unfold wpList
      by_cases hw : Region.wanted o (yielded ops a.tmps) = true
      · rw [if_pos hw] at this; simp only [hw, if_true]; exact .inl this
      · rw [if_neg hw] at this; simp only [hw]; exact this
end
end Go.Ev
