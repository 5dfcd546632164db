/- Conversions; make, append, copy, clear. -/
import Derived.Test.YtfdgkmligadcnaaEv13
set_option linter.unusedVariables false
set_option linter.unusedSimpArgs false
namespace Go.Ev
open Go
section
variable {P : Program} {C : Cx} {W0 : World} {F0 : Base} {ρ : Nat → Option Loc} {s s' : St} {a : Act} {w : World}

theorem strOf_foldl (ns : List Int) : ns.foldl (fun r n => r.push (UInt8.ofNat n.toNat)) ByteArray.empty = strOf ns := by
  have key : ∀ (ns : List Int) (b : ByteArray), ns.foldl (fun r n => r.push (UInt8.ofNat n.toNat)) b = ⟨b.data ++ (ns.map fun n => UInt8.ofNat n.toNat).toArray⟩ := by
    intro ns
    induction ns with
    | nil => intro b; simp
    | cons n ns ih =>
      intro b
      simp only [List.foldl_cons, ih]
      simp [ByteArray.push]
  rw [key]
  simp [strOf, ByteArray.empty, ByteArray.emptyWithCapacity]
  rfl

theorem pu_ints {F : Nat → Prop} {k : IntKind} {n : Nat} {xs : List Int} {cs : List Value} (h : Pu w F (.arr n (.int k)) xs cs) : cs = xs.map (Value.int k) := by
  obtain ⟨h1, h2, h3⟩ := h
  simp only [Ty.size, Nat.mul_one] at h2 h3
  apply List.ext_getElem?
  intro i
  by_cases hi : i < n
  · have := h3 i hi
    have hx : xs[i]? = some (xs.getD i 0) := by
      have hl : i < List.length xs := by rw [h1]; exact hi
      simp [List.getD, List.getElem?_eq_getElem hl]
    have h0 : ((cs.drop i).take 1)[0]? = some (.int k (xs.getD i 0)) := by
      have e : (cs.drop i).take 1 = [Value.int k (xs.getD i 0)] := this
      rw [e]; rfl
    simp only [List.getElem?_take, Nat.zero_lt_one, if_true, List.getElem?_drop, Nat.add_zero] at h0
    rw [h0, List.getElem?_map, hx]; rfl
  · rw [List.getElem?_eq_none (by omega), List.getElem?_eq_none (by simp; omega)]

theorem give_conv (hD : DOk P C) (h : Rep W0 F0 ρ s a w) {o : Oper} {src dst d : Nat} {x : Operand} (hop : o.op = .convert src dst x) {v : AV} (ho : (rdX x fun a => convPg C src dst a d).Out s v s') : Gives P W0 F0 o a w v s' := by
  obtain ⟨av, h1, ho1⟩ := out_rdX h ho
  clear ho
  obtain ⟨hok, ho⟩ := out_bif ho1
  clear ho1
  obtain ⟨tks⟩ := tok_of_kind hD (T := src) (fun e => by rw [e] at hok; simp [TK.ok] at hok)
  split at ho
  · rename_i ki n
    have hx := h1.int_eq
    split at ho
    · rename_i k hk
      obtain ⟨rfl, rfl⟩ := ho
      obtain ⟨dd, hdu, hkd⟩ := und hD hk (by simp)
      rw [kindB_int hkd] at hdu
      exact ⟨_, w, ρ, .inl (by simp [execOp, hop, hx, convert, run_underlying tks.hd, run_underlying hdu, Conv.intToInt]), h, Val.mkInt _ _ _⟩
    · rename_i hk
      obtain ⟨rfl, rfl⟩ := ho
      obtain ⟨dd, hdu, hkd⟩ := und hD hk (by simp)
      rw [kindB_str hkd] at hdu
      exact ⟨_, w, ρ, .inl (by simp [execOp, hop, hx, convert, run_underlying tks.hd, run_underlying hdu, Conv.intToString]), h, Val.mkStr _ _⟩
    · exact ho.elim
  · rename_i b
    have hx := h1.str_eq
    split at ho
    · rename_i hk
      obtain ⟨rfl, rfl⟩ := ho
      obtain ⟨dd, hdu, hkd⟩ := und hD hk (by simp)
      rw [kindB_str hkd] at hdu
      exact ⟨_, w, ρ, .inl (by simp [execOp, hop, hx, convert, run_underlying tks.hd, run_underlying hdu]), h, Val.mkStr _ _⟩
    · rename_i e hk
      split at ho
      · rename_i hke
        obtain ⟨hsz, hn, rfl, rfl⟩ := ho
        obtain ⟨dd, hdu, hkd⟩ := und hD hk (by simp)
        rw [kindB_sl hkd] at hdu
        obtain ⟨de, hdue, hkde⟩ := und hD hke (by simp)
        rw [kindB_int hkde] at hdue
        obtain ⟨cap, hcap, hr⟩ := run_stringToBytes (P := P) (w := w) (e := e) b
        have hb := bytes_pu b w.drew (Env.F ⟨w.drew, s.o, ρ⟩)
        have hbs : (bytesOf b).length = b.size := by simp [bytesOf]
        obtain ⟨ρ', hrep, hval⟩ := h.drew.newFull (t := .int .u8) (xs := bytesOf b) (cs := b.data.toList.map fun x => Value.int .u8 x.toNat) (T := e) (fr := (cap, cap + 1)) (n := b.size) (cap := cap) hn hb (cells := (b.data.map fun x => Value.int .u8 x.toNat) ++ Array.replicate (cap - b.size) (.int .u8 0))
          (by simp) (by simp [seg]) (fun i _ hi => by
            have : b.data.size = b.size := rfl
            simp at hi; simp; omega) hbs hcap (by
            have : b.data.size = b.size := rfl
            simp [Ty.size]; omega)
        refine ⟨_, _, ρ', .inl ?_, hrep, hval⟩
        simp [execOp, hop, hx, convert, run_underlying tks.hd, run_underlying hdu, run_underlying hdue, hr]
      · exact ho.elim
    · exact ho.elim
  · split at ho
    · rename_i e hk
      split at ho
      · rename_i hk2
        split at ho
        · rename_i hke
          have hav : av.sh = .leaf ∨ True := .inr trivial
          have hsh : av.sh ≠ .bad := by
            cases av <;> simp_all [AV.sh, exP, ofP, ofAV, Pg.Out]
          have hbk : ∀ t xs, av ≠ .bk t xs := by
            rintro t xs rfl
            simp [exP, ofP, ofAV, Pg.Out] at ho
          obtain ⟨hce, _⟩ := h1.cells hsh hbk
          obtain ⟨ys, l, ho, hshp, hp⟩ := exP_out h hce ho
          obtain ⟨rfl, rfl⟩ := ho
          have hp0 := hp (fun _ => False) (fun b hb => hb.elim)
          obtain ⟨ad, cap, hc, hcap, hp1⟩ := hp0
          have hu : a.eval x = .slice ad ys.length cap := by
            have hc' := h1.ce hshp
            have hl := hce.len
            cases hax : a.eval x with
            | agg cs =>
              exfalso
              rw [hax] at hc'
              have := ce_one hc' _ (List.mem_singleton.2 rfl)
              simp [Value.oneCell'] at this
            | _ => rw [hax] at hc; simp [Value.cells] at hc <;> simp [hc]
          obtain ⟨dd, hdu, hkd⟩ := und hD hk2 (by simp)
          rw [kindB_str hkd] at hdu
          obtain ⟨ds, hdus, hkds⟩ := und hD hk (by simp)
          rw [kindB_sl hkds] at hdus
          obtain ⟨de, hdue, hkde⟩ := und hD hke (by simp)
          rw [kindB_int hkde] at hdue
          refine ⟨.string (strOf ys), w, ρ, .inl ?_, h, Val.mkStr _ _⟩
          have key : (Conv.bytesToString (.slice ad ys.length cap)).run P w = .ok (.string (strOf ys)) w := by
            have hpp : Pu w (fun _ => False) (.sl (.int .u8)) ys [.slice ad ys.length cap] := ⟨ad, cap, rfl, hcap, hp1⟩
            obtain ⟨ad', cap', e1, _, hf⟩ := sl_cells (P := P) hpp
            simp only [Value.slice.injEq] at e1
            obtain ⟨rfl, _, rfl⟩ := e1
            obtain ⟨cs, h2, h3⟩ := hf ys.length (Nat.le_refl _)
            have h3 := pu_ints h3
            rw [List.take_length] at h3
            cases ad with
            | none =>
              rcases hp1 with hp1 | ⟨b, off, cells, T, fr, e, _⟩
              · subst hp1; simp [Conv.bytesToString, strOf, ByteArray.empty, ByteArray.emptyWithCapacity]; rfl
              · cases e
            | some adr =>
              have hcs : cs = (ys.map (Value.int .u8)).toArray := by rw [← h3]
              simp only [Builtin.firstCells, Ty.size, Nat.mul_one] at h2
              rw [hcs] at h2
              rw [run_bytesToString w adr _ cap ys h2, strOf_foldl]
          simp [execOp, hop, hu, convert, run_underlying hdus, run_underlying hdu, run_underlying hdue, key]
        · exact ho.elim
      · exact ho.elim
    · exact ho.elim

theorem fits_le {n m b : Nat} (h : fits n b) (hm : m ≤ n) : m * b ≤ 140737488355328 := Nat.le_trans (Nat.mul_le_mul_right _ hm) h

theorem give_make (hD : DOk P C) (h : Rep W0 F0 ρ s a w) {o : Oper} {T d : Nat} {x y : Operand} (hop : o.op = .makeSlice T x y) {v : AV}
    (ho : (rdX x fun a => rdX y fun b => makePg C T a b d).Out s v s') : Gives P W0 F0 o a w v s' := by
  obtain ⟨av, h1, ho1⟩ := out_rdX h ho
  clear ho
  obtain ⟨bv, h2, ho⟩ := out_rdX h ho1
  clear ho1
  unfold makePg at ho
  split at ho
  · rename_i n m
    split at ho
    · rename_i e hk
      split at ho
      · rename_i t ht
        rcases out_if ho with ⟨_, ho⟩ | ⟨hbz, ho⟩
        · exact ho.elim
        obtain ⟨b0, b1, b2, hn, rfl, rfl⟩ := ho
        obtain ⟨dd, hdu, hkd⟩ := und hD hk (by simp)
        rw [kindB_sl hkd] at hdu
        rcases hD e with he | tke
        · rw [he] at ht; cases ht
        obtain ⟨tke⟩ := tke
        obtain ⟨hts, hzs, hpz⟩ := tke.ty t ht
        have hx := h1.int_eq
        have hy := h2.int_eq
        have hbytes : tke.i.bytes = (C.D e).bytes := tke.bytes
        have hmb : m.toNat ≤ 140737488355328 := by
          have h' : m.toNat * (C.D e).bytes ≤ 140737488355328 := b2
          have : 1 ≤ (C.D e).bytes := by omega
          have := Nat.mul_le_mul_left m.toNat this
          omega
        have wl : IntKind.i64.wrap n = n := IntWalk.i64_in _ (by omega)
        have wm : IntKind.i64.wrap m = m := IntWalk.i64_in _ (by omega)
        have tl : ∀ q : Int, 0 ≤ q → q ≤ m → (decide (q < 0) || decide ((tke.i.bytes : Int) * q > 2 ^ 48)) = false := by
          intro q hq hqm
          simp only [Bool.or_eq_false_iff, decide_eq_false_iff_not]
          refine ⟨by omega, ?_⟩
          have h' : q.toNat * (C.D e).bytes ≤ 140737488355328 := fits_le b2 (by omega)
          rw [hbytes]
          have e1 : ((C.D e).bytes : Int) * q = ((q.toNat * (C.D e).bytes : Nat) : Int) := by
            rw [Int.natCast_mul, Int.mul_comm]; congr 1; omega
          rw [e1]; omega
        have hzz : tke.z.cells.size = t.size := by rw [hzs, hts]
        have hsz' : tke.i.size = t.size := by rw [tke.size, hts]
        obtain ⟨ρ', hrep, hval⟩ := h.newFull (T := e) (fr := (0, 0)) (n := n.toNat) (cap := m.toNat) (t := t) (xs := List.replicate n.toNat t.dflt) (cells := (Array.range (m.toNat * tke.z.cells.size)).map fun i => tke.z.cells[i % tke.z.cells.size]!)
          hn (cs := (((Array.range (m.toNat * tke.z.cells.size)).map fun i => tke.z.cells[i % tke.z.cells.size]!).toList.take (n.toNat * t.size)))
          (by rw [List.length_replicate]; exact zero_row hzz hpz n.toNat m.toNat (by omega)) (by simp only [List.length_take, Array.length_toList]; omega) (by simp only [seg, List.drop_zero, List.length_take]; rw [List.take_eq_take_iff]; omega) (fun i _ _ => by simp) (by simp) (by omega) (by simp [hzz])
        refine ⟨_, _, ρ', .inl ?_, hrep, hval⟩
        simp only [execOp, hop, hx, hy, Instr.makeSlice, Sem.run_bind, run_underlying hdu, Result.andThen_ok, asInt, asIntOf, Sem.run_pure, run_typeInfo' tke.hi, wl, wm]
        have t1 := tl m (by omega) (Int.le_refl _)
        have t2 := tl n b0 b1
        simp only [t1, show decide (n < 0) = false by simp; omega, show decide (n > m) = false by simp; omega, Bool.or_self, Bool.false_eq_true, if_false, Sem.run_pure, Sem.run_bind, Result.andThen_ok, run_askRoom, run_sizeOf tke.hi, hsz']
        by_cases h0 : m.toNat * t.size = 0
        · simp [h0, hzz, newRow]
          congr 2
          apply Array.ext <;> simp
        · simp [h0, hzz, newRow, run_zeroValue tke.hi tke.hz]
      · exact ho.elim
    · exact ho.elim
  · exact ho.elim

/-! append -/
theorem run_append_in {T ty e : TypeId} (hd : P.underlying T = some (.slice e)) {i : TypeInfo} (hi : P.info? e = some i) {ad : Option Addr} {n cap m cap2 : Nat} {ad2 : Option Addr} {new : Array Value}
    (hnew : (Builtin.firstCells i.size m (.slice ad2 m cap2)).run P w = .ok new w) (hle : n + m ≤ cap) {w' : World} (hst : (∀ x, ad = some x → (storeCells (x.add (n * i.size)) new.toList).run P w = .ok () w') ∧ (ad = none → w' = w)) :
    (Builtin.append_ #[T, T] ty #[.slice ad n cap, .slice ad2 m cap2]).run P w = .ok (.slice ad (n + m) cap) w' := by
  cases ad with
  | none =>
    have := hst.2 rfl
    subst this
    simp [Builtin.append_, run_underlying hd, run_sizeOf hi, Builtin.lenOf, hle, hnew]
  | some x => simp [Builtin.append_, run_underlying hd, run_sizeOf hi, Builtin.lenOf, hle, hnew, hst.1 x rfl]

theorem run_append_new {T ty e : TypeId} (hd : P.underlying T = some (.slice e)) {i : TypeInfo} (hi : P.info? e = some i) {z : Value} (hz : i.zero = some z) {ad : Option Addr} {n cap m cap2 : Nat} {ad2 : Option Addr} {old new : Array Value}
    (hfit : (n + m) * i.bytes ≤ 140737488355328) (h63 : n + m ≤ 9223372036854775807) (hlt : cap < n + m) (hold : (Builtin.firstCells i.size n (.slice ad n cap)).run P w.drew = .ok old w.drew) (hnew : (Builtin.firstCells i.size m (.slice ad2 m cap2)).run P w.drew = .ok new w.drew) :
    ∃ nc, n + m ≤ nc ∧ (Builtin.append_ #[T, T] ty #[.slice ad n cap, .slice ad2 m cap2]).run P w = .ok (.slice (some ⟨w.heap.size, 0, none⟩) (n + m) nc) (w.drew.alloc (.cells (old ++ new ++ Builtin.zeroCells z.cells (nc - (n + m))) e)) := by
  have hcap : n + m ≤ (Question.appendCap (n + m) cap e).cut (w.tape w.drawn (.appendCap (n + m) cap e)) := by simp [Question.cut]
  refine ⟨_, hcap, ?_⟩
  have hg := growslice_fits (need := n + m) (old := cap) (bytes := i.bytes) hlt hfit
  have hg' : ¬ 281474976710656 < Builtin.nextslicecap (n + m) cap * i.bytes := by omega
  have hle : ¬ n + m ≤ cap := by omega
  have h64 : ¬ (9223372036854775807 : Int) < (n : Int) + (m : Int) := by omega
  simp [Builtin.append_, run_underlying hd, run_sizeOf hi, run_typeInfo' hi, Builtin.lenOf, hle, hg', h64, run_zeroValue hi hz, newRow, Question.forced, hold, hnew]
end
end Go.Ev
