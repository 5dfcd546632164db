/- What a function is handed and gives back, in memory; how the evaluator takes it out of a state. -/
import Derived.Test.YtfdgkmligadcnaaEv18
set_option linter.unusedVariables false
set_option linter.unusedSimpArgs false
namespace Go.Ev
open Go

def Ty.agg : Ty → Bool
  | .nl => true
  | .pair _ _ => true
  | .arr _ _ => true
  | _ => false
def SP.agg : SP → Bool
  | .pure t => t.agg
  | .nl => true
  | .cons _ _ => true
  | _ => false
def SP.size : SP → Nat
  | .pure t => t.size
  | .nl => 0
  | .cons a b => a.size + b.size
  | _ => 1

/-- what a pointer leads to -/
def Behind (w : World) (R : List Value → List Nat → Prop) (u : Value) (bs : List Nat) : Prop :=
  ∃ b off cells T fr ds bs', u = .pointer (some ⟨b, off, none⟩) ∧ bs = b :: bs' ∧ w.heap[b]? = some (.cells cells T fr) ∧ off + ds.length ≤ cells.size ∧ seg cells off ds.length = ds ∧
    Unfrozen fr off cells.size ∧ R ds bs'

/-- cells that hold a value of a specification; its blocks -/
def Tr (w : World) (F : Nat → Prop) : (s : SP) → s.den → List Value → List Nat → Prop
  | .pure t, x, cs, bs => Pu w F t x cs ∧ bs = []
  | .own t, xs, cs, bs => ∃ a cap, cs = [.slice a (List.length xs) cap] ∧ List.length xs ≤ cap ∧ ((cap = 0 ∧ bs = []) ∨ ∃ b off cells T fr, a = some ⟨b, off, none⟩ ∧ bs = [b] ∧ w.heap[b]? = some (.cells cells T fr) ∧
      off + cap * t.size ≤ cells.size ∧ Unfrozen fr off cells.size ∧ Pu w F (.arr (List.length xs) t) xs (seg cells off (List.length xs * t.size)))
  | .rptr t, x, cs, bs => bs = [] ∧ ∃ b off cells T fr, cs = [.pointer (some ⟨b, off, none⟩)] ∧ ¬ F b ∧ w.heap[b]? = some (.cells cells T fr) ∧ off + t.size ≤ cells.size ∧ Pu w F t x (seg cells off t.size)
  | .ptr s, x, cs, bs => ∃ u, cs = [u] ∧ Behind w (Tr w F s x) u bs
  | .nptr s, x, cs, bs => match (x : Option s.den) with
    | none => cs = [.pointer none] ∧ bs = []
    | some y => ∃ u, cs = [u] ∧ Behind w (Tr w F s y) u bs
  | .nl, _, cs, bs => cs = [] ∧ bs = []
  | .cons a b, x, cs, bs => ∃ bs1 bs2, bs = bs1 ++ bs2 ∧ Tr w F a x.1 (cs.take a.size) bs1 ∧ Tr w F b x.2 (cs.drop a.size) bs2

/-- the same of a value -/
def VTr (w : World) (F : Nat → Prop) (s : SP) (x : s.den) (u : Value) (bs : List Nat) : Prop :=
  (s.agg = true ∧ ∃ cs : List Value, u = .agg cs.toArray ∧ Tr w F s x cs bs) ∨ (s.agg = false ∧ Tr w F s x [u] bs)

/-- a list of values -/
def Args (w : World) (F : Nat → Prop) : (s : SP) → s.den → List Value → List Nat → Prop
  | .nl, _, us, bs => us = [] ∧ bs = []
  | .cons a b, x, us, bs => ∃ u r bs1 bs2, us = u :: r ∧ bs = bs1 ++ bs2 ∧ VTr w F a x.1 u bs1 ∧ Args w F b x.2 r bs2
  | _, _, _, _ => False

/-- what lies behind a list of values at the end -/
def Outs (w : World) (F : Nat → Prop) : (s : SP) → s.odn → List Value → List Nat → Prop
  | .pure _, _, us, bs => bs = []
  | .own _, _, us, bs => bs = []
  | .rptr _, _, us, bs => bs = []
  | .ptr s, x, us, bs => ∃ u, us = [u] ∧ Behind w (Tr w F s x) u bs
  | .nptr s, x, us, bs => match (x : Option s.den) with
    | none => us = [.pointer none] ∧ bs = []
    | some y => ∃ u, us = [u] ∧ Behind w (Tr w F s y) u bs
  | .nl, _, us, bs => bs = []
  | .cons a b, x, us, bs => ∃ u r bs1 bs2, us = u :: r ∧ bs = bs1 ++ bs2 ∧ Outs w F a x.1 [u] bs1 ∧ Outs w F b x.2 r bs2

theorem shT_agg : ∀ {t : Ty} {v : AV}, v.sh = shT t → (∀ t xs, v ≠ .bk t xs) → v.agg = t.agg := by
  intro t v h hb
  cases t <;> cases v <;> simp [AV.sh, shT] at h <;> first | rfl | exact absurd rfl (hb _ _)

section
variable {P : Program} {C : Cx} {W0 : World} {F0 : Base} {ρ : Nat → Option Loc} {s s' : St} {a : Act} {w : World}

def blk (ρ : Nat → Option Loc) (own : List Nat) : List Nat := own.filterMap fun o => (ρ o).map (·.b)

theorem blk_append (l m : List Nat) : blk ρ (l ++ m) = blk ρ l ++ blk ρ m := List.filterMap_append
theorem blk_cons {o : Nat} {l : Loc} (h : ρ o = some l) (m : List Nat) : blk ρ (o :: m) = l.b :: blk ρ m := by simp [blk, h]

theorem exP_notbk {α : Type} {t : Ty} {v : AV} {k : t.den → List Nat → Pg α} {r : α} (h : (exP t v k).Out s r s') : ∀ t xs, v ≠ .bk t xs := by
  intro t' xs e
  subst e
  cases t <;> simp [exP, ofP, ofAV, Pg.Out] at h

theorem exP_live {α : Type} {t : Ty} {v : AV} {k : t.den → List Nat → Pg α} {r : α} (h : (exP t v k).Out s r s') : v.sh ≠ .bad := by
  intro e
  cases v <;> simp [AV.sh] at e <;> cases t <;> simp [exP, ofP, ofAV, Pg.Out] at h
theorem exS_notbk {α : Type} {sp : SP} {v : AV} {k : sp.den → List Nat → List Nat → Pg α} {r : α} (h : (exS sp v k).Out s r s') : (∀ t xs, v ≠ .bk t xs) ∧ v.sh ≠ .bad := by
  cases sp with
  | pure t => simp only [exS] at h; exact ⟨exP_notbk h, exP_live h⟩
  | own t => refine ⟨fun t xs e => ?_, fun e => ?_⟩
             · subst e; exact h.elim
             · cases v <;> simp [AV.sh] at e <;> exact h.elim
  | rptr t => refine ⟨fun t xs e => ?_, fun e => ?_⟩
              · subst e; exact h.elim
              · cases v <;> simp [AV.sh] at e <;> exact h.elim
  | ptr s => refine ⟨fun t xs e => ?_, fun e => ?_⟩
             · subst e; exact h.elim
             · cases v <;> simp [AV.sh] at e <;> exact h.elim
  | nptr s => refine ⟨fun t xs e => ?_, fun e => ?_⟩
              · subst e; exact h.elim
              · cases v <;> simp [AV.sh] at e <;> exact h.elim
  | nl => refine ⟨fun t xs e => ?_, fun e => ?_⟩
          · subst e; exact h.elim
          · cases v <;> simp [AV.sh] at e <;> exact h.elim
  | cons a b => refine ⟨fun t xs e => ?_, fun e => ?_⟩
                · subst e; exact h.elim
                · cases v <;> simp [AV.sh] at e <;> exact h.elim

/-- an object behind a pointer to its beginning -/
theorem Rep.whole (h : Rep W0 F0 ρ s a w) {o : Nat} {c : AV} {ad : Addr} (hc : s.o o = some c) (hd : c.dead = false) (hA : AddrOf ⟨w, s.o, ρ⟩ o [] ad) :
    ∃ l cells T fr ds, ρ o = some l ∧ ad = ⟨l.b, l.off, none⟩ ∧ w.heap[l.b]? = some (.cells cells T fr) ∧ Ce ⟨w, s.o, ρ⟩ c ds ∧ l.off + ds.length ≤ cells.size ∧ seg cells l.off ds.length = ds ∧ Unfrozen fr l.off cells.size := by
  obtain ⟨c', hc', hk⟩ := hA
  have : c' = c := by
    have h' : s.o o = some c' := hc'
    rw [hc] at h'; exact (Option.some.inj h').symm
  subst this
  rcases hk with hk | ⟨l, k, e, hl, hoff, had⟩
  · exact absurd hk (AV.dead_sh hd)
  · simp only [Sh.off, Option.some.injEq, Prod.mk.injEq] at hoff
    obtain ⟨rfl, rfl⟩ := hoff
    rcases h.ob o c' hc (AV.dead_sh hd) with ⟨l', cells, T, fr, cs, g1, g2, g3, g4, g5, g6⟩ | ⟨g1, _⟩
    · have e1 : l' = l := by
        have h1 : ρ o = some l' := g1
        have h2 : ρ o = some l := hl
        rw [h1] at h2; exact Option.some.inj h2
      subst e1
      exact ⟨l', cells, T, fr, cs, g1, by simpa using had, g2, g3, g4, g5, g6⟩
    · have h1 : ρ o = none := g1
      have h2 : ρ o = some l := hl
      rw [h1] at h2; cases h2

theorem pu_win {F : Nat → Prop} {t : Ty} {m : Nat} {xs : List t.den} {cs : List Value} (hp : Pu w F (.arr m t) xs cs) {off len : Int} (h0 : 0 ≤ off) {n : Nat} (hn : (n : Int) = len) (hm : off + len ≤ m) :
    Pu w F (.arr n t) (win xs off len) ((cs.drop (off.toNat * t.size)).take (n * t.size)) := by
  have hlen := win_length xs (off := off) (len := len) h0 (by omega) (by rw [hp.1]; exact hm)
  have hle : off.toNat * t.size + n * t.size ≤ m * t.size := by rw [← Nat.add_mul]; exact Nat.mul_le_mul_right _ (by omega)
  refine ⟨by omega, by rw [List.length_take, List.length_drop, hp.2.1]; omega, fun i hi => ?_⟩
  rw [win_getD xs h0 (by omega)]
  have hi' : off.toNat + i < m := by omega
  have := hp.2.2 _ hi'
  have h2 := mul_succ_le (k := t.size) hi
  rw [drop_take_drop_take _ _ _ _ _ (by omega), ← Nat.add_mul]
  exact this

theorem exS_out {α : Type} (h : Rep W0 F0 ρ s a w) {r : α} : ∀ {sp : SP} {v : AV} {k : sp.den → List Nat → List Nat → Pg α} {cs : List Value}, Ce ⟨w, s.o, ρ⟩ v cs → (exS sp v k).Out s r s' →
    ∃ x own ro bs, (k x own ro).Out s r s' ∧ (∀ o ∈ own, ∃ c, s.o o = some c ∧ c.sh ≠ .bad) ∧ bs.Sublist (blk ρ own) ∧ v.sh.size = sp.size ∧ v.agg = sp.agg ∧
      ∀ F, (sp.noSl = true ∨ Outside s ρ ro F) → Tr w F sp x cs bs := by
  intro sp
  have key : ∀ {sp : SP} (ih : ∀ {v : AV} {k : sp.den → List Nat → List Nat → Pg α} {cs : List Value}, Ce ⟨w, s.o, ρ⟩ v cs → (exS sp v k).Out s r s' →
      ∃ x own ro bs, (k x own ro).Out s r s' ∧ (∀ o ∈ own, ∃ c, s.o o = some c ∧ c.sh ≠ .bad) ∧ bs.Sublist (blk ρ own) ∧ v.sh.size = sp.size ∧ v.agg = sp.agg ∧ ∀ F, (sp.noSl = true ∨ Outside s ρ ro F) → Tr w F sp x cs bs)
      {o : Nat} {cs : List Value} {k : sp.den → List Nat → List Nat → Pg α} (hc : Ce ⟨w, s.o, ρ⟩ (.ref o []) cs) (ho : (Pg.rdO o fun c => exS sp c k).Out s r s'),
      ∃ x own ro bs u, (k x own ro).Out s r s' ∧ (∀ q ∈ o :: own, ∃ c, s.o q = some c ∧ c.sh ≠ .bad) ∧ bs.Sublist (blk ρ (o :: own)) ∧ cs = [u] ∧ ∀ F, (sp.noSl = true ∨ Outside s ρ ro F) → Behind w (Tr w F sp x) u bs := by
    intro sp ih o cs k hc ho
    obtain ⟨c, hcc, hd, ho⟩ := ho
    obtain ⟨ad, rfl, hA⟩ := hc
    obtain ⟨l, cells, T, fr, ds, h1, h2, h3, h4, h5, h6, h7⟩ := h.whole hcc hd hA
    obtain ⟨x, own, ro, bs, g1, g2, g3, g4, g5, g6⟩ := ih h4 ho
    refine ⟨x, own, ro, l.b :: bs, _, g1, fun q hq => ?_, by rw [blk_cons h1]; exact g3.cons_cons _, rfl, fun F hF => ⟨l.b, l.off, cells, T, fr, ds, bs, by rw [h2], rfl, h3, h5, h6, h7, g6 F hF⟩⟩
    rcases List.mem_cons.1 hq with rfl | hq
    · exact ⟨c, hcc, AV.dead_sh hd⟩
    · exact g2 q hq
  induction sp with
  | pure t =>
    intro v k cs hc ho
    simp only [exS] at ho
    obtain ⟨x, l, h1, h2, h3⟩ := exP_out h hc ho
    refine ⟨x, [], l, [], h1, by simp, List.Sublist.refl _, by rw [h2]; exact shT_size t, shT_agg h2 (exP_notbk ho), fun F hF => ⟨?_, rfl⟩⟩
    rcases hF with hF | hF
    · exact (h3 (fun _ => False) (fun b hb => hb.elim)).anywhere hF
    · exact h3 F hF
  | own t =>
    intro v k cs hc ho
    simp only [exS] at ho
    split at ho
    · rename_i o
      obtain ⟨c, hcc, hd, ho⟩ := ho
      obtain ⟨u, rfl, hv⟩ := hc
      dsimp only at ho
      split at ho
      · obtain ⟨ys, hys, ho⟩ := out_ofP ho
        obtain ⟨rfl, rfl⟩ := castL_some hys
        obtain ⟨ad, cap, hu, hcap, hh, _⟩ := h.full hv hcc
        refine ⟨_, [o], [], if cap = 0 then [] else blk ρ [o], ho, fun q hq => ?_, ?_, rfl, rfl, fun F hF => ?_⟩
        · rw [List.mem_singleton] at hq; subst hq; exact ⟨_, hcc, by simp [AV.sh]⟩
        · split
          · exact List.nil_sublist _
          · exact List.Sublist.refl _
        · refine ⟨ad, cap, by rw [hu], hcap, ?_⟩
          by_cases h0 : cap = 0
          · exact .inl ⟨h0, if_pos h0⟩
          · rcases hh with ⟨e, _⟩ | ⟨l, cells, T, fr, cs, g1, g2, g3, g4, g5, g6, g7, g8⟩
            · exact absurd e h0
            · refine .inr ⟨l.b, l.off, cells, T, fr, g2, by rw [if_neg h0, blk_cons g1]; rfl, g3, g4, g7, ?_⟩
              rw [← g8.2.1, g6]
              rcases hF with hF | hF
              · exact g8.anywhere (t := .arr _ _) hF
              · exact hF.pu g8
      · exact ho.elim
    · rename_i o off len
      obtain ⟨c, hcc, hd, ho⟩ := ho
      obtain ⟨u, rfl, hv⟩ := hc
      dsimp only at ho
      split at ho
      · rename_i t' xs
        obtain ⟨ys, hys, ho⟩ := out_ofP ho
        obtain ⟨rfl, rfl⟩ := castL_some hys
        obtain ⟨n, ad, cap, hu, hn, hcap, h0, hm, hh, _⟩ := h.view hv hcc hd rfl (.inr ⟨rfl, rfl⟩)
        have hlen : (win xs off len).length = n := by have := win_length xs (off := off) (len := len) h0 (by omega) hm; omega
        refine ⟨_, [o], [], if cap = 0 then [] else blk ρ [o], ho, fun q hq => ?_, ?_, rfl, rfl, fun F hF => ?_⟩
        · rw [List.mem_singleton] at hq; subst hq; exact ⟨_, hcc, by simp [AV.sh]⟩
        · split
          · exact List.nil_sublist _
          · exact List.Sublist.refl _
        · refine ⟨ad, cap, by rw [hu, hlen], by rw [hlen]; exact hcap, ?_⟩
          by_cases hz : cap = 0
          · exact .inl ⟨hz, if_pos hz⟩
          · rcases hh with e | ⟨l, k', cells, T, fr, cs, g1, g2, g3, g4, goff, gce, g5, g6, g7, g8, g9⟩
            · exact absurd e hz
            · simp only [Sh.off, AV.sh, Option.some.injEq, Prod.mk.injEq] at goff
              obtain ⟨rfl, _⟩ := goff
              refine .inr ⟨l.b, _, cells, T, fr, g2, by rw [if_neg hz, blk_cons g1]; rfl, g3, ?_, fun i hi hi' => g7 i (by omega) hi', ?_⟩
              · rw [Nat.add_mul] at g4; omega
              · have hw := pu_win g9 h0 hn hm
                have e1 : ((List.drop 0 cs).take (xs.length * t'.size)) = cs := by
                  rw [List.drop_zero]; exact List.take_of_length_le (by rw [gce.len]; exact Nat.le_refl _)
                rw [e1] at hw
                have hle : (off.toNat + n) * t'.size ≤ xs.length * t'.size := Nat.mul_le_mul_right t'.size (by omega)
                rw [Nat.add_mul] at hle
                have e2 : cs.length = xs.length * t'.size := gce.len
                rw [hlen, Nat.add_zero, seg_sub (n := cs.length) (by rw [e2]; exact hle), g6]
                rcases hF with hF | hF
                · exact hw.anywhere (t := .arr _ _) hF
                · exact hF.pu hw
      · exact ho.elim
    · refine ⟨_, [], [], [], ho, by simp, List.Sublist.refl _, rfl, rfl, fun F hF => ?_⟩
      have hc : cs = [.slice none 0 0] := hc
      exact ⟨none, 0, hc, Nat.le_refl _, .inl ⟨rfl, rfl⟩⟩
    · exact ho.elim
  | rptr t =>
    intro v k cs hc ho
    simp only [exS] at ho
    split at ho
    · rename_i o p
      obtain ⟨c, hcc, hd, ho⟩ := ho
      dsimp only at ho
      split at ho
      · rename_i d hat
        obtain ⟨x, hx, ho⟩ := out_ofP ho
        obtain ⟨ad, rfl, hA⟩ := hc
        obtain ⟨l, k', e, cells, T', fr, cs, g1, g2, g3, g4, g5, g6, g7, g8, g9⟩ := h.at_ref hA hcc hd
        have hce := ce_at hat g2 g5
        have hsh := at_off hat g2
        obtain ⟨hp, hsd⟩ := pu_ofAV hx hce
        have hes : e.size = t.size := by rw [← hsh, hsd, shT_size]
        rw [hes] at hp g9
        refine ⟨x, [], [o], [], ho, by simp, List.Sublist.refl _, rfl, rfl, fun F hF => ⟨rfl, l.b, l.off + k', cells, T', fr, by rw [g3], fun hb => ?_, g4, by omega, ?_⟩⟩
        · rcases hF with hF | hF
          · simp [SP.noSl] at hF
          · obtain ⟨o', c', l', f1, f2, f3, f4, f5⟩ := hF _ hb
            exact f1 (by rw [h.inj o' o c' c l' l f2 hcc f3 (AV.dead_sh hd) f4 g1 f5]; simp)
        · rw [seg_sub g9, g7]
          rcases hF with hF | hF
          · simp [SP.noSl] at hF
          · exact hF.pu hp
      · exact ho.elim
    · rename_i t' x
      obtain ⟨y, hy, ho⟩ := out_ofP ho
      have : ∃ e : t' = t, e ▸ x = y := by
        unfold castV at hy
        split at hy
        · rename_i e; subst e; exact ⟨rfl, Option.some.inj hy⟩
        · cases hy
      obtain ⟨rfl, rfl⟩ := this
      obtain ⟨ad, rfl, b, off, cells, T', fr, hx, hF', hbb, hs, hp⟩ := hc
      refine ⟨_, [], [], [], ho, by simp, List.Sublist.refl _, rfl, rfl, fun F hF => ⟨rfl, b, off, cells, T', fr, by rw [hx], fun hb => ?_, hbb, hs, ?_⟩⟩
      · rcases hF with hF | hF
        · simp [SP.noSl] at hF
        · exact hF' (hF.sub hb)
      · rcases hF with hF | hF
        · simp [SP.noSl] at hF
        · exact hF.pu hp
    · exact ho.elim
  | ptr sp ih =>
    intro v k cs hc ho
    simp only [exS] at ho
    split at ho
    · obtain ⟨x, own, ro, bs, u, g1, g2, g3, g4, g5⟩ := key ih hc ho
      exact ⟨x, _, ro, bs, g1, g2, g3, rfl, rfl, fun F hF => ⟨u, g4, g5 F hF⟩⟩
    · exact ho.elim
  | nptr sp ih =>
    intro v k cs hc ho
    simp only [exS] at ho
    split at ho
    · obtain ⟨x, own, ro, bs, u, g1, g2, g3, g4, g5⟩ := key ih hc ho
      exact ⟨some x, _, ro, bs, g1, g2, g3, rfl, rfl, fun F hF => ⟨u, g4, g5 F hF⟩⟩
    · exact ⟨none, [], [], [], ho, by simp, List.Sublist.refl _, rfl, rfl, fun F hF => ⟨hc, rfl⟩⟩
    · exact ho.elim
  | nl =>
    intro v k cs hc ho
    simp only [exS] at ho
    split at ho
    · exact ⟨(), [], [], [], ho, by simp, List.Sublist.refl _, rfl, rfl, fun F hF => ⟨hc, rfl⟩⟩
    · exact ho.elim
  | cons A B iha ihb =>
    intro v k cs hc ho
    simp only [exS] at ho
    split at ho
    · obtain ⟨x, own, ro, bs, g1, g2, g3, g4, g5, g6⟩ := iha hc.1 ho
      obtain ⟨y, own', ro', bs', f1, f2, f3, f4, f5, f6⟩ := ihb hc.2 g1
      refine ⟨(x, y), own ++ own', ro ++ ro', bs ++ bs', f1, fun q hq => ?_, by rw [blk_append]; exact g3.append f3, by simp [AV.sh, Sh.size, SP.size, g4, f4], rfl, fun F hF => ⟨bs, bs', rfl, ?_, ?_⟩⟩
      · rcases List.mem_append.1 hq with hq | hq
        · exact g2 q hq
        · exact f2 q hq
      · rw [← g4]
        refine g6 F ?_
        rcases hF with hF | hF
        · simp only [SP.noSl, Bool.and_eq_true] at hF; exact .inl hF.1
        · exact .inr (hF.mono fun o ho => List.mem_append_left _ ho)
      · rw [← g4]
        refine f6 F ?_
        rcases hF with hF | hF
        · simp only [SP.noSl, Bool.and_eq_true] at hF; exact .inl hF.2
        · exact .inr (hF.mono fun o ho => List.mem_append_right _ ho)
    · exact ho.elim

theorem exV_out {α : Type} (h : Rep W0 F0 ρ s a w) {r : α} {sp : SP} {v : AV} {k : sp.den → List Nat → List Nat → Pg α} {u : Value} (hv : Val ⟨w, s.o, ρ⟩ v u) (ho : (exS sp v k).Out s r s') :
    ∃ x own ro bs, (k x own ro).Out s r s' ∧ (∀ o ∈ own, ∃ c, s.o o = some c ∧ c.sh ≠ .bad) ∧ bs.Sublist (blk ρ own) ∧ ∀ F, (sp.noSl = true ∨ Outside s ρ ro F) → VTr w F sp x u bs := by
  obtain ⟨hb, hl⟩ := exS_notbk ho
  have key : (v.agg = true ∧ ∃ cs : List Value, u = .agg cs.toArray ∧ Ce ⟨w, s.o, ρ⟩ v cs) ∨ (v.agg = false ∧ Ce ⟨w, s.o, ρ⟩ v [u]) := by
    rcases hv with (e | ⟨h1, h2⟩ | ⟨h1, _, h2⟩) | ⟨c, us, e, _⟩
    · subst e; simp [AV.sh] at hl
    · exact .inl ⟨h1, h2⟩
    · exact .inr ⟨h1, h2⟩
    · subst e; simp [AV.sh] at hl
  rcases key with ⟨h1, cs, h2, h3⟩ | ⟨h1, h3⟩
  · obtain ⟨x, own, ro, bs, g1, g2, g3, g4, g5, g6⟩ := exS_out h h3 ho
    exact ⟨x, own, ro, bs, g1, g2, g3, fun F hF => .inl ⟨by rw [← g5]; exact h1, cs, h2, g6 F hF⟩⟩
  · obtain ⟨x, own, ro, bs, g1, g2, g3, g4, g5, g6⟩ := exS_out h h3 ho
    exact ⟨x, own, ro, bs, g1, g2, g3, fun F hF => .inr ⟨by rw [← g5]; exact h1, g6 F hF⟩⟩

theorem exA_out {α : Type} (h : Rep W0 F0 ρ s a w) {r : α} : ∀ {sp : SP}, sp.isList = true → ∀ {vs : List AV} {k : sp.den → List Nat → List Nat → Pg α} {us : List Value}, Vals ⟨w, s.o, ρ⟩ vs us → (exS sp (listAV vs) k).Out s r s' →
    ∃ x own ro bs, (k x own ro).Out s r s' ∧ (∀ o ∈ own, ∃ c, s.o o = some c ∧ c.sh ≠ .bad) ∧ bs.Sublist (blk ρ own) ∧ ∀ F, (sp.noSl = true ∨ Outside s ρ ro F) → Args w F sp x us bs := by
  intro sp
  induction sp with
  | nl =>
    intro _ vs k us hv ho
    cases vs with
    | nil => 
      have hv : us = [] := hv
      exact ⟨(), [], [], [], ho, by simp, List.Sublist.refl _, fun F hF => ⟨hv, rfl⟩⟩
    | cons v vs => exact ho.elim
  | cons A B iha ihb =>
    intro hl vs k us hv ho
    cases vs with
    | nil => exact ho.elim
    | cons v vs =>
      obtain ⟨u, rest, rfl, h1, h2⟩ := hv
      simp only [exS, listAV] at ho
      obtain ⟨x, own, ro, bs, g1, g2, g3, g6⟩ := exV_out h h1 ho
      obtain ⟨y, own', ro', bs', f1, f2, f3, f6⟩ := ihb hl h2 g1
      refine ⟨(x, y), own ++ own', ro ++ ro', bs ++ bs', f1, fun q hq => ?_, by rw [blk_append]; exact g3.append f3, fun F hF => ⟨u, rest, bs, bs', rfl, rfl, ?_, ?_⟩⟩
      · rcases List.mem_append.1 hq with hq | hq
        · exact g2 q hq
        · exact f2 q hq
      · refine g6 F ?_
        rcases hF with hF | hF
        · simp only [SP.noSl, Bool.and_eq_true] at hF; exact .inl hF.1
        · exact .inr (hF.mono fun o ho => List.mem_append_left _ ho)
      · refine f6 F ?_
        rcases hF with hF | hF
        · simp only [SP.noSl, Bool.and_eq_true] at hF; exact .inl hF.2
        · exact .inr (hF.mono fun o ho => List.mem_append_right _ ho)
  | _ => intro hl; simp [SP.isList] at hl

/-- the arguments' names and what they are -/
def fxOf : AV → List Value → List (AV × Value)
  | .cons v r, u :: us => (v, u) :: fxOf r us
  | _, _ => []

theorem exOne_out {α : Type} (h : Rep W0 F0 ρ s a w) {r : α} {sp : SP} {v : AV} {u : Value} (hp : sp.par1 = true) (hu : Val ⟨w, s.o, ρ⟩ v u) {k : sp.odn → List Nat → List Nat → Pg α}
    (ho : (exO sp v k).Out s r s') :
    ∃ x own ro bs, (k x own ro).Out s r s' ∧ (∀ o ∈ own, ∃ c, s.o o = some c ∧ c.sh ≠ .bad) ∧ bs.Sublist (blk ρ own) ∧ ∀ F, Outs w F sp x [u] bs := by
  have key : ∀ {sp : SP} {o : Nat} {k : sp.den → List Nat → List Nat → Pg α} (hp : sp.noSl = true) (hu : Val ⟨w, s.o, ρ⟩ (.ref o []) u) (ho : (Pg.rdO o fun c => exS sp c k).Out s r s'),
      ∃ x own ro bs, (k x own ro).Out s r s' ∧ (∀ q ∈ o :: own, ∃ c, s.o q = some c ∧ c.sh ≠ .bad) ∧ bs.Sublist (blk ρ (o :: own)) ∧ ∀ F, Behind w (Tr w F sp x) u bs := by
    intro sp o k hp hu ho
    obtain ⟨ad, rfl, hA⟩ := hu.ref_eq
    obtain ⟨c, hcc, hd, ho⟩ := ho
    obtain ⟨l, cells, T, fr, ds, h1, h2, h3, h4, h5, h6, h7⟩ := h.whole hcc hd hA
    obtain ⟨x, own, ro, bs, g1, g2, g3, g4, g5, g6⟩ := exS_out h h4 ho
    refine ⟨x, own, ro, l.b :: bs, g1, fun q hq => ?_, by rw [blk_cons h1]; exact g3.cons_cons _, fun F => ⟨l.b, l.off, cells, T, fr, ds, bs, by rw [h2], rfl, h3, h5, h6, h7, g6 F (.inl hp)⟩⟩
    rcases List.mem_cons.1 hq with rfl | hq
    · exact ⟨c, hcc, AV.dead_sh hd⟩
    · exact g2 q hq
  cases sp with
  | pure t => exact ⟨(), [], [], [], ho, by simp, List.Sublist.refl _, fun F => rfl⟩
  | rptr t => exact ⟨(), [], [], [], ho, by simp, List.Sublist.refl _, fun F => rfl⟩
  | ptr sp =>
    simp only [exO] at ho
    split at ho
    · obtain ⟨x, own, ro, bs, g1, g2, g3, g5⟩ := key (by simpa [SP.par1] using hp) hu ho
      exact ⟨x, _, ro, bs, g1, g2, g3, fun F => ⟨u, rfl, g5 F⟩⟩
    · exact ho.elim
  | nptr sp =>
    simp only [exO] at ho
    split at ho
    · obtain ⟨x, own, ro, bs, g1, g2, g3, g5⟩ := key (by simpa [SP.par1] using hp) hu ho
      exact ⟨some x, _, ro, bs, g1, g2, g3, fun F => ⟨u, rfl, g5 F⟩⟩
    · refine ⟨none, [], [], [], ho, by simp, List.Sublist.refl _, fun F => ?_⟩
      rw [hu.nilp_eq]; exact ⟨rfl, rfl⟩
    · exact ho.elim
  | _ => simp [SP.par1] at hp

theorem exO_out {α : Type} (h : Rep W0 F0 ρ s a w) {r : α} : ∀ {sp : SP}, sp.parOk = true → ∀ {v : AV} {us : List Value}, us.length = sp.len → (∀ p, p ∈ fxOf v us → Val ⟨w, s.o, ρ⟩ p.1 p.2) → ∀ {k : sp.odn → List Nat → List Nat → Pg α},
    (exO sp v k).Out s r s' →
    ∃ x own ro bs, (k x own ro).Out s r s' ∧ (∀ o ∈ own, ∃ c, s.o o = some c ∧ c.sh ≠ .bad) ∧ bs.Sublist (blk ρ own) ∧ ∀ F, Outs w F sp x us bs := by
  intro sp
  induction sp with
  | nl =>
    intro _ v us hl hfx k ho
    exact ⟨(), [], [], [], ho, by simp, List.Sublist.refl _, fun F => rfl⟩
  | cons A B iha ihb =>
    intro hp v us hl hfx k ho
    simp only [SP.parOk, Bool.and_eq_true] at hp
    simp only [exO] at ho
    split at ho
    · cases us with
      | nil => simp [SP.len] at hl
      | cons u us =>
        obtain ⟨x, own, ro, bs, g1, g2, g3, g6⟩ := exOne_out h hp.1 (hfx _ (List.mem_cons_self ..)) ho
        obtain ⟨y, own', ro', bs', f1, f2, f3, f6⟩ := ihb hp.2 (by simpa [SP.len] using hl) (fun p hp => hfx p (List.mem_cons_of_mem _ hp)) g1
        refine ⟨(x, y), own ++ own', ro ++ ro', bs ++ bs', f1, fun q hq => ?_, by rw [blk_append]; exact g3.append f3, fun F => ⟨u, us, bs, bs', rfl, rfl, g6 F, f6 F⟩⟩
        rcases List.mem_append.1 hq with hq | hq
        · exact g2 q hq
        · exact f2 q hq
    · exact ho.elim
  | _ => intro hp; simp [SP.parOk] at hp
end
end Go.Ev
