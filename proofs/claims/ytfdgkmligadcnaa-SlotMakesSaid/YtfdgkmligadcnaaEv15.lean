/- append, copy, clear as operations. -/
import Derived.Test.YtfdgkmligadcnaaEv14
set_option linter.unusedVariables false
set_option linter.unusedSimpArgs false
namespace Go.Ev
open Go
section
variable {P : Program} {C : Cx} {W0 : World} {F0 : Base} {ρ : Nat → Option Loc} {s s' : St} {a : Act} {w : World}

theorem Rep.appendIn (h : Rep W0 F0 ρ s a w) {q d : Nat} {t : Ty} {xs ys : List t.den} (hq : s.o q = some (.bk t xs)) (hd : s.o d = none) (ht : t.noSl = true) {l : Loc} {cells : Array Value} {T : TypeId} {fr : Nat × Nat} {cs vs : List Value} {cap : Nat}
    (hl : ρ q = some l) (hb : w.heap[l.b]? = some (.cells cells T fr)) (hcs : Pu w (Env.F ⟨w, s.o, ρ⟩) (.arr xs.length t) xs cs) (hseg : seg cells l.off cs.length = cs) (hu : Unfrozen fr l.off cells.size)
    (hvs : Pu w (fun _ => False) (.arr ys.length t) ys vs) (hcap : xs.length + ys.length ≤ cap) (hfit : l.off + cap * t.size ≤ cells.size) :
    ∃ ρ', Rep W0 F0 ρ' ((s.setO q .top).setO d (.bk t (xs ++ ys))) a (w.setRow l.b (splA cells (l.off + xs.length * t.size) vs)) ∧
      Val ⟨w.setRow l.b (splA cells (l.off + xs.length * t.size) vs), ((s.setO q .top).setO d (.bk t (xs ++ ys))).o, ρ'⟩ (.full d) (.slice (some ⟨l.b, l.off, none⟩) (xs.length + ys.length) cap) := by
  have hne : q ≠ d := fun e => by rw [e, hd] at hq; cases hq
  have hlen1 : cs.length = xs.length * t.size := hcs.2.1
  have hlen2 : vs.length = ys.length * t.size := hvs.2.1
  have hcap2 : (xs.length + ys.length) * t.size ≤ cap * t.size := Nat.mul_le_mul_right _ hcap
  rw [Nat.add_mul] at hcap2
  have hfit2 : l.off + xs.length * t.size + vs.length ≤ cells.size := by omega
  have hsz : (splA cells (l.off + xs.length * t.size) vs).size = cells.size := splA_size hfit2
  generalize hcells' : splA cells (l.off + xs.length * t.size) vs = cells' at hsz
  have ho : ∀ x, ((s.setO q .top).setO d (.bk t (xs ++ ys))).o x = if d = x then some (.bk t (xs ++ ys)) else if q = x then some .top else s.o x := by
    intro x; rw [St.setO_o, St.setO_o]
  have other : ∀ x c, ((s.setO q .top).setO d (.bk t (xs ++ ys))).o x = some c → c.sh ≠ .bad → (x = d ∧ c = .bk t (xs ++ ys)) ∨ (x ≠ d ∧ x ≠ q ∧ s.o x = some c) := by
    intro x c hx hc
    rw [ho] at hx
    by_cases e1 : d = x
    · rw [if_pos e1] at hx; exact .inl ⟨e1.symm, (Option.some.inj hx).symm⟩
    · rw [if_neg e1] at hx
      by_cases e2 : q = x
      · rw [if_pos e2] at hx; cases hx; simp [AV.sh] at hc
      · rw [if_neg e2] at hx; exact .inr ⟨Ne.symm e1, Ne.symm e2, hx⟩
  have hE : Ext ⟨w, s.o, ρ⟩ ⟨w.setRow l.b cells', ((s.setO q .top).setO d (.bk t (xs ++ ys))).o, upd ρ d (some l)⟩ := by
    refine ⟨fun b x hF hx => ?_, fun x c hx => ?_⟩
    · have hnb : b ≠ l.b := fun e => hF ⟨q, _, l, hq, by simp [AV.sh], hl, e.symm⟩
      refine ⟨by show (w.setRow l.b cells').heap[b]? = _; rw [setRow_other w l.b b cells' hnb]; exact hx, ?_⟩
      rintro ⟨y, c, k, hy, hc, hk, rfl⟩
      rcases other y c hy hc with ⟨rfl, rfl⟩ | ⟨e1, e2, e3⟩
      · simp only [upd, if_true, Option.some.injEq] at hk
        exact hnb (by rw [← hk])
      · simp only [upd, if_neg e1] at hk
        exact hF ⟨y, c, k, e3, hc, hk, rfl⟩
    · have hx' : s.o x = some c := hx
      have e1 : d ≠ x := fun e => by subst e; rw [hd] at hx'; cases hx'
      by_cases e2 : q = x
      · exact ⟨.top, (ho x).trans (by rw [if_neg e1, if_pos e2]), .inl rfl⟩
      · refine ⟨c, (ho x).trans (by rw [if_neg e1, if_neg e2]; exact hx'), ?_⟩
        by_cases hb' : c.sh = .bad
        · exact .inl hb'
        · refine .inr ⟨hb', rfl, by simp [upd, Ne.symm e1], fun k cl T' fr' hk hkk => ?_⟩
          by_cases e : k.b = l.b
          · have hkk' : w.heap[k.b]? = some (.cells cl T' fr') := hkk
            rw [e, hb] at hkk'
            cases hkk'
            exact ⟨cells', fr, by show (w.setRow l.b cells').heap[k.b]? = _; rw [e]; exact setRow_heap w l.b cells cells' T fr hb, by omega⟩
          · exact ⟨cl, fr', by show (w.setRow l.b cells').heap[k.b]? = _; rw [setRow_other w l.b k.b cells' e]; exact hkk, Nat.le_refl _⟩
  have hnew : Pu (w.setRow l.b cells') (Env.F ⟨w.setRow l.b cells', ((s.setO q .top).setO d (.bk t (xs ++ ys))).o, upd ρ d (some l)⟩) (.arr (xs ++ ys).length t) (xs ++ ys) (cs ++ vs) := by
    have h1 := hcs.anywhere (w' := w) (F' := fun _ => False) (t := .arr xs.length t) ht
    have := pu_append h1 hvs
    rw [List.length_append]
    exact this.anywhere (t := .arr (xs.length + ys.length) t) ht
  have hseg' : seg cells' l.off (cs ++ vs).length = cs ++ vs := by
    rw [← hcells', List.length_append, ← hlen1, seg_splA_same (by omega) (by omega)]
    have e1 : (seg cells l.off (cs.length + vs.length)).take cs.length = cs := by
      unfold seg at hseg ⊢
      rw [List.take_take, Nat.min_eq_left (by omega)]
      exact hseg
    unfold spl
    rw [e1, List.drop_of_length_le (by rw [seg_length (by omega)]; exact Nat.le_refl _), List.append_nil]
  refine ⟨upd ρ d (some l), ⟨h.size, h.defers, fun i => hE.val (h.tm i), fun x c hx hc => ?_, ?_, ?_, ?_, fun p hp => hE.val (h.fx p hp)⟩, Val.leaf rfl ⟨_, rfl, _, _, _, rfl, hcap, .bk t (xs ++ ys), (ho d).trans (if_pos rfl), .inr ⟨t, by simp [AV.sh], .inr ⟨l, cells', T, fr, by simp [upd], rfl, setRow_heap w l.b cells cells' T fr hb, by omega⟩⟩⟩⟩
  · rcases other x c hx hc with ⟨rfl, rfl⟩ | ⟨e1, e2, e3⟩
    · exact .inl ⟨l, cells', T, fr, cs ++ vs, by simp [upd], setRow_heap w l.b cells cells' T fr hb, hnew, by rw [List.length_append]; omega, hseg', by rw [hsz]; exact hu⟩
    · rcases h.ob x c e3 hc with ⟨k, cl, T', fr', cs', g1, g2, g3, g4, g5, g6⟩ | g
      · have hnb : k.b ≠ l.b := fun e => e2 (h.inj x q c _ k l e3 hq hc (by simp [AV.sh]) g1 hl e)
        exact .inl ⟨k, cl, T', fr', cs', by simp [upd, e1]; exact g1, by show (w.setRow l.b cells').heap[k.b]? = _; rw [setRow_other w l.b k.b cells' hnb]; exact g2, hE.ce g3, g4, g5, g6⟩
      · exact .inr ⟨by simp [upd, e1]; exact g.1, g.2⟩
  · intro x x' c c' k k' hx hx' hc hc' hk hk' hbb
    rcases other x c hx hc with ⟨rfl, rfl⟩ | ⟨e1, e2, e3⟩ <;> rcases other x' c' hx' hc' with ⟨rfl, rfl⟩ | ⟨e1', e2', e3'⟩
    · rfl
    · exfalso
      simp only [upd, if_true, Option.some.injEq] at hk
      simp only [upd, if_neg e1'] at hk'
      subst hk
      exact e2' (h.inj x' q c' _ k' l e3' hq hc' (by simp [AV.sh]) hk' hl hbb.symm)
    · exfalso
      simp only [upd, if_neg e1] at hk
      simp only [upd, if_true, Option.some.injEq] at hk'
      subst hk'
      exact e2 (h.inj x q c _ k l e3 hq hc (by simp [AV.sh]) hk hl hbb)
    · simp only [upd, if_neg e1] at hk
      simp only [upd, if_neg e1'] at hk'
      exact h.inj x x' c c' k k' e3 e3' hc hc' hk hk' hbb
  · intro x c k hx hc hk
    rcases other x c hx hc with ⟨rfl, rfl⟩ | ⟨e1, e2, e3⟩
    · simp only [upd, if_true, Option.some.injEq] at hk
      subst hk
      exact h.own q _ l hq (by simp [AV.sh]) hl
    · simp only [upd, if_neg e1] at hk
      exact h.own x c k e3 hc hk
  · refine ⟨h.fr.os, h.fr.tape, h.fr.output, by simp; exact h.fr.size, fun b hb' hF => ?_, keep_setRow hb hsz.symm h.fr.keep⟩
    have hnb : b ≠ l.b := by
      rintro rfl
      rcases h.own q _ l hq (by simp [AV.sh]) hl with g | g
      · exact hF g
      · omega
    rw [setRow_other w l.b b cells' hnb]
    exact h.fr.block b hb' hF

theorem exP_leaf {α : Type} {t : Ty} {v : AV} {k : List t.den → List Nat → Pg α} {r : α} (h : (exP (.sl t) v k).Out s r s') : v.sh = .leaf := by
  cases v <;> simp [exP, ofP, ofAV, Pg.Out, AV.sh] at h ⊢

theorem pu_drew {F : Nat → Prop} {t : Ty} {x : t.den} {cs : List Value} (h : Pu w F t x cs) : Pu w.drew F t x cs := Pu.mono (w := w) (w' := w.drew) (F := F) (F' := F) (fun b o hb ho => ⟨ho, hb⟩) h

theorem zc_size {z : Value} {n : Nat} : (Builtin.zeroCells z.cells n).size = n * z.cells.size := by simp [Builtin.zeroCells]

theorem give_append (hD : DOk P C) (h : Rep W0 F0 ρ s a w) {o : Oper} {c : Call} {x y : Operand} {T d : Nat} (hop : o.op = .call c) (hcal : c.callee = .builtin .append) (hargs : c.args = #[x, y]) (hT : c.argTypes = #[T, T])
    {av bv v : AV} (h1 : Val ⟨w, s.o, ρ⟩ av (a.eval x)) (h2 : Val ⟨w, s.o, ρ⟩ bv (a.eval y)) (ho : (appPg C T av bv d).Out s v s') : Gives P W0 F0 o a w v s' := by
  unfold appPg at ho
  split at ho
  · rename_i e hk
    split at ho
    · rename_i t ht
      obtain ⟨hns, ho⟩ := out_nif ho
      simp only [Bool.or_eq_false_iff, Bool.not_eq_false'] at hns
      obtain ⟨hns, hbz⟩ := hns
      have hbz : (C.D e).bytes ≠ 0 := fun e0 => by rw [e0] at hbz; simp at hbz
      have h63 : ∀ {n : Nat}, fits n (C.D e).bytes → n ≤ 9223372036854775807 := by
        intro n hf
        have h' : n * (C.D e).bytes ≤ 140737488355328 := hf
        have := Nat.mul_le_mul_left n (show 1 ≤ (C.D e).bytes by omega)
        omega
      obtain ⟨dd, hdu, hkd⟩ := und hD hk (by simp)
      rw [kindB_sl hkd] at hdu
      rcases hD e with he | tke
      · rw [he] at ht; cases ht
      obtain ⟨tke⟩ := tke
      obtain ⟨hts, hzs, hpz⟩ := tke.ty t ht
      have hsz : tke.i.size = t.size := by rw [tke.size, hts]
      have hz : tke.z.cells.size = t.size := by rw [hzs, hts]
      have hleaf := exP_leaf ho
      obtain ⟨ys, ro, ho, _, hp⟩ := exP_out h (h2.ce hleaf) ho
      have hp0 := hp (fun _ => False) (fun b hb => hb.elim)
      obtain ⟨ad2, cap2, hy, hcap2, hfc⟩ := sl_cells (P := P) hp0
      obtain ⟨new, hnew, hpn⟩ := hfc ys.length (Nat.le_refl _)
      rw [List.take_length] at hpn
      obtain ⟨ad2', cap2', hy', hcap2', hfc'⟩ := sl_cells (P := P) (pu_drew hp0)
      obtain ⟨new', hnew', hpn'⟩ := hfc' ys.length (Nat.le_refl _)
      rw [List.take_length] at hpn'
      rw [hy] at hnew hnew'
      rw [← hsz] at hnew hnew'
      have fin : ∀ {u : Value} {w' : World} {ρ' : Nat → Option Loc}, (Builtin.append_ #[T, T] o.type #[a.eval x, a.eval y]).run P w = .ok u w' → Rep W0 F0 ρ' s' a w' → Val ⟨w', s'.o, ρ'⟩ v u → Gives P W0 F0 o a w v s' := by
        intro u w' ρ' hr h3 h4
        exact ⟨u, w', ρ', .inl (by simp [execOp, hop, resolve, hcal, hargs, hT, invoke, builtin, hr]), h3, h4⟩
      have grow : ∀ {n cap : Nat} {ad : Option Addr} {xs : List t.den} {s1 : St} {old : Array Value}, a.eval x = .slice ad n cap → xs.length = n → cap < n + ys.length → fits (n + ys.length) (C.D e).bytes → n + ys.length ≤ 9223372036854775807 →
          (Builtin.firstCells tke.i.size n (.slice ad n cap)).run P w.drew = .ok old w.drew → Pu w.drew (fun _ => False) (.arr xs.length t) xs old.toList → Rep W0 F0 ρ s1 a w → s1.o d = none → v = .full d → s' = s1.setO d (.bk t (xs ++ ys)) → Gives P W0 F0 o a w v s' := by
        intro n cap ad xs s1 old hx hxs hlt hfits h63 hold hpo hr hd hv hs'
        obtain ⟨nc, hnc, hrun⟩ := run_append_new (P := P) (w := w) (ty := o.type) hdu tke.hi tke.hz (by rw [tke.bytes]; exact hfits) h63 hlt hold hnew'
        have hpp := pu_append hpo hpn'
        have hl1 : old.size = xs.length * t.size := by simpa using hpo.2.1
        have hl2 : new'.size = ys.length * t.size := by simpa using hpn'.2.1
        have hle : (n + ys.length) * t.size + (nc - (n + ys.length)) * t.size = nc * t.size := by rw [← Nat.add_mul]; congr 1; omega
        rw [Nat.add_mul] at hle
        rw [hxs] at hl1
        obtain ⟨ρ', h3, h4⟩ := hr.drew.newFull (t := t) (xs := xs ++ ys) (cs := old.toList ++ new'.toList) (cells := old ++ new' ++ Builtin.zeroCells tke.z.cells (nc - (n + ys.length))) (T := e) (fr := (0, 0)) (n := n + ys.length) (cap := nc) hd
          (by rw [List.length_append]; exact hpp.anywhere (t := .arr (xs.length + ys.length) t) hns) (by simp) (by simp only [seg, List.drop_zero, Array.toList_append, List.append_assoc]; rw [← List.append_assoc, List.take_left']; rfl) (fun i _ _ => by simp) (by simp; omega) hnc (by simp only [Array.size_append, zc_size, hz]; omega)
        subst hs' hv
        exact fin (by rw [hx, hy]; exact hrun) h3 h4
      split at ho
      · -- nil
        obtain ⟨hfits, hd, rfl, rfl⟩ := ho
        have hx := h1.nils_eq
        by_cases hm : ys.length = 0
        · have hys : ys = [] := List.eq_nil_of_length_eq_zero hm
          subst hys
          obtain ⟨hE, hr⟩ := h.newNil t hd
          refine fin (u := .slice none 0 0) (w' := w) ?_ hr (Val.leaf rfl ⟨_, rfl, 0, none, 0, rfl, Nat.le_refl _, .bk t [], by simp [St.setO_o], .inr ⟨t, rfl, .inl rfl⟩⟩)
          rw [hx, hy]
          exact run_append_in (ty := o.type) hdu tke.hi hnew (by simp) ⟨fun _ h => by simp at h, fun _ => rfl⟩
        · exact grow (n := 0) (cap := 0) (ad := none) (xs := []) (s1 := s) (old := #[]) hx rfl (by omega) (by rw [Nat.zero_add]; exact hfits) (by rw [Nat.zero_add]; exact h63 hfits) (by simp [Builtin.firstCells]) ⟨by simp, by simp, fun i hi => by simp at hi⟩ h hd rfl (by simp)
      · -- a row of one's own
        rename_i q _ _
        obtain ⟨cc, hc, hdead, ho⟩ := ho
        dsimp only at ho
        split at ho
        · rename_i t' xs0
          obtain ⟨xs, hcast, ho⟩ := out_ofP ho
          obtain ⟨rfl, rfl⟩ := castL_some hcast
          obtain ⟨hro, hfits, ⟨_, _⟩, hd, rfl, rfl⟩ := out_nif ho
          obtain ⟨ad, cap, hx, hcap, hk', _⟩ := h.full h1.full_eq hc
          obtain ⟨hEk, hrk⟩ := h.kill hc
          rcases hk' with ⟨hc0, hxs⟩ | ⟨l, cells, T', fr, cs, g1, g2, g3, g4, g5, g6, g7, g8⟩
          · subst hxs
            by_cases hm : ys.length = 0
            · have hys : ys = [] := List.eq_nil_of_length_eq_zero hm
              subst hys
              obtain ⟨hE, hr⟩ := hrk.newNil t' hd
              have hn0 : new = #[] := by
                have := hpn.2.1
                simp at this
                exact this
              refine fin (u := .slice ad 0 cap) (w' := w) ?_ hr (Val.leaf rfl ⟨_, rfl, 0, ad, cap, rfl, Nat.zero_le _, .bk t' [], by simp [St.setO_o], .inr ⟨t', rfl, .inl hc0⟩⟩)
              rw [hx, hy]
              exact run_append_in (ty := o.type) hdu tke.hi hnew (by simp) ⟨fun x _ => by subst hn0; rfl, fun _ => rfl⟩
            · exact grow (n := 0) (cap := cap) (ad := ad) (xs := []) (s1 := s.setO q .top) (old := #[]) hx rfl (by simp; omega) hfits (h63 hfits) (by cases ad <;> simp [Builtin.firstCells, loadCells, loadCellsFrom]) ⟨by simp, by simp, fun i hi => by simp at hi⟩ hrk hd rfl rfl
          · by_cases hroom : xs0.length + ys.length ≤ cap
            · have hd' : s.o d = none := by
                have hh : (s.setO q .top).o d = none := hd
                rw [St.setO_o] at hh
                split at hh
                · cases hh
                · exact hh
              obtain ⟨ρ', h3, h4⟩ := h.appendIn (d := d) (ys := ys) hc hd' hns g1 g3 g8 g6 g7 hpn hroom g4
              refine fin ?_ h3 h4
              rw [hx, hy, g2]
              refine run_append_in (ty := o.type) hdu tke.hi hnew hroom ⟨fun x hx' => ?_, fun hn => by cases hn⟩
              cases hx'
              have hlen2 : new.size = ys.length * t'.size := by simpa using hpn.2.1
              have hle : (xs0.length + ys.length) * t'.size ≤ cap * t'.size := Nat.mul_le_mul_right _ hroom
              rw [Nat.add_mul] at hle
              rw [addr_add, hsz]
              exact run_storeCells_spl (P := P) (b := l.b) (T := T') (fr := fr) (l.off + xs0.length * t'.size) new.toList 0 cells w g3 (by simp; omega) (fun i hi hj => g7 i (by omega) hj) (pu_one hpn)
            · have hlen1 : cs.length = xs0.length * t'.size := g8.2.1
              have hold : (Builtin.firstCells tke.i.size xs0.length (.slice ad xs0.length cap)).run P w.drew = .ok (seg cells l.off cs.length).toArray w.drew := by
                rw [g2, hsz]
                simp only [Builtin.firstCells]
                rw [← hlen1]
                exact run_loadCells_seg (w := w.drew) g3 g5
              refine grow (xs := xs0) (s1 := s.setO q .top) hx rfl (by omega) hfits (h63 hfits) hold ?_ hrk hd rfl rfl
              rw [List.toList_toArray, g6]
              exact g8.anywhere (t := .arr xs0.length t') hns
        · exact ho.elim
      · exact ho.elim
    · exact ho.elim
  · exact ho.elim
end
end Go.Ev
