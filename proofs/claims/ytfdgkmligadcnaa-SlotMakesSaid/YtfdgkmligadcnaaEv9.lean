/- Slices that are only read; parts of slices and strings; fields and elements. -/
import Derived.Test.YtfdgkmligadcnaaEv8
set_option linter.unusedVariables false
set_option linter.unusedSimpArgs false
namespace Go.Ev
open Go
section
variable {P : Program} {C : Cx} {W0 : World} {F0 : Base} {ρ : Nat → Option Loc} {s s' : St} {a : Act} {w : World}

/-- F holds of blocks of objects outside of l alone -/
def Outside (s : St) (ρ : Nat → Option Loc) (l : List Nat) (F : Nat → Prop) : Prop := ∀ b, F b → ∃ o' c' l', o' ∉ l ∧ s.o o' = some c' ∧ c'.sh ≠ .bad ∧ ρ o' = some l' ∧ l'.b = b

theorem Outside.mono {l l' : List Nat} {F : Nat → Prop} (h : Outside s ρ l F) (hs : ∀ o, o ∈ l' → o ∈ l) : Outside s ρ l' F := fun b hb => by
  obtain ⟨o, c, k, h1, h2⟩ := h b hb
  exact ⟨o, c, k, fun h3 => h1 (hs o h3), h2⟩
theorem Outside.sub {l : List Nat} {F : Nat → Prop} (h : Outside s ρ l F) {b : Nat} (hb : F b) : Env.F ⟨w, s.o, ρ⟩ b := by
  obtain ⟨o, c, k, h1, h2, h3, h4, h5⟩ := h b hb
  exact ⟨o, c, k, h2, h3, h4, h5⟩
theorem Outside.pu {l : List Nat} {F : Nat → Prop} (h : Outside s ρ l F) {t : Ty} {x : t.den} {cs : List Value} (hp : Pu w (Env.F ⟨w, s.o, ρ⟩) t x cs) : Pu w F t x cs :=
  hp.mono fun b o hb ho => ⟨ho, fun hF => hb (h.sub hF)⟩

/-- a view of a list: what it is, and as a slice that is only read -/
theorem Rep.view (h : Rep W0 F0 ρ s a w) {o : Nat} {p : List PS} {off len : Int} {u : Value} (hv : ViewOf ⟨w, s.o, ρ⟩ o p off len u) {c d : AV} (hc : s.o o = some c) (hd : c.dead = false) (hat : AV.at p c = some d)
    {t : Ty} {m : Nat} {xs : List t.den} (hdd : d = .arr t m xs ∨ (d = .bk t xs ∧ m = xs.length)) :
    ∃ n ad cap, u = .slice ad n cap ∧ (n : Int) = len ∧ n ≤ cap ∧ 0 ≤ off ∧ off + len ≤ m ∧
      (cap = 0 ∨ ∃ l k cells T fr cs, ρ o = some l ∧ ad = some ⟨l.b, l.off + k + off.toNat * t.size, none⟩ ∧ w.heap[l.b]? = some (.cells cells T fr) ∧ l.off + k + (off.toNat + cap) * t.size ≤ cells.size ∧
        Sh.off p c.sh = some (k, d.sh) ∧ Ce ⟨w, s.o, ρ⟩ c cs ∧ l.off + cs.length ≤ cells.size ∧ seg cells l.off cs.length = cs ∧ Unfrozen fr l.off cells.size ∧ k + m * t.size ≤ cs.length ∧
        Pu w (Env.F ⟨w, s.o, ρ⟩) (.arr m t) xs ((cs.drop k).take (m * t.size))) ∧
      (∀ F, Outside s ρ [o] F → Pu w F (.sl t) (win xs off len) [u]) := by
  obtain ⟨n, ad, cap, hu, hn, hcap, c', hc', hk⟩ := hv
  have : c' = c := by
    have h' : s.o o = some c' := hc'
    rw [hc] at h'; exact (Option.some.inj h').symm
  subst this
  rcases hk with hk | ⟨k, t', m', hoff, h0, hm, hk⟩
  · exact absurd hk (AV.dead_sh hd)
  · have hsh : d.sh = .arr t m ∨ d.sh = .bk t m := by
      rcases hdd with rfl | ⟨rfl, rfl⟩
      · exact .inl rfl
      · exact .inr rfl
    obtain ⟨rfl, rfl, hoff'⟩ : t' = t ∧ m' = m ∧ Sh.off p c'.sh = some (k, d.sh) := by
      rcases hoff with hoff | hoff
      · have := at_off hat hoff
        rw [this] at hsh
        rcases hsh with e | e
        · cases e; exact ⟨rfl, rfl, by rw [this]; exact hoff⟩
        · cases e
      · have := at_off hat hoff
        rw [this] at hsh
        rcases hsh with e | e
        · cases e
        · cases e; exact ⟨rfl, rfl, by rw [this]; exact hoff⟩
    have hsz : d.sh.size = m' * t'.size := by rcases hsh with e | e <;> rw [e] <;> rfl
    rcases hk with hk | ⟨l, cells, T, fr, hl, had, hb, hs⟩
    · refine ⟨n, ad, cap, hu, hn, hcap, h0, hm, .inl hk, fun F hF => ?_⟩
      have : n = 0 := by omega
      subst this
      have hl0 : len = 0 := by omega
      subst hl0
      have : win xs off 0 = [] := by simp [win]
      rw [this, hu]
      exact ⟨ad, cap, rfl, by simp, .inl rfl⟩
    · rcases h.ob o c' hc (AV.dead_sh hd) with ⟨l', cells', T', fr', cs, g1, g2, g3, g4, g5, g6⟩ | ⟨g1, _⟩
      · have e1 : l' = l := by
          have h1 : ρ o = some l' := g1
          have h2 : ρ o = some l := hl
          rw [h1] at h2; exact Option.some.inj h2
        subst e1
        have e2 : cells' = cells ∧ T' = T ∧ fr' = fr := by
          have h1 : w.heap[l'.b]? = some (.cells cells' T' fr') := g2
          have h2 : w.heap[l'.b]? = some (.cells cells T fr) := hb
          rw [h1] at h2; cases h2; exact ⟨rfl, rfl, rfl⟩
        obtain ⟨rfl, rfl, rfl⟩ := e2
        have hle := off_le hoff'
        rw [hsz, ← g3.len] at hle
        have hce := ce_at hat hoff' g3
        rw [hsz] at hce
        have hp : Pu w (Env.F ⟨w, s.o, ρ⟩) (.arr m' t') xs ((cs.drop k).take (m' * t'.size)) := by
          rcases hdd with rfl | ⟨rfl, rfl⟩
          · exact hce
          · exact hce
        refine ⟨n, ad, cap, hu, hn, hcap, h0, hm, .inr ⟨l', k, cells', T', fr', cs, g1, had, g2, hs, hoff', g3, g4, g5, g6, hle, hp⟩, fun F hF => ?_⟩
        rw [hu]
        exact pu_window h hc hd (fun b hb => by
          obtain ⟨o', c', l', h1, h2⟩ := hF b hb
          exact ⟨o', c', l', by simpa using h1, h2⟩) g1 g2 g4 g5 hle hp h0 hm hn hcap (.inr had)
      · have h1 : ρ o = none := g1
        have h2 : ρ o = some l := hl
        rw [h1] at h2; cases h2

/-- a row of the function's own -/
theorem Rep.full (h : Rep W0 F0 ρ s a w) {o : Nat} {u : Value} (hv : FullOf ⟨w, s.o, ρ⟩ o u) {t : Ty} {xs : List t.den} (hc : s.o o = some (.bk t xs)) :
    ∃ ad cap, u = .slice ad xs.length cap ∧ xs.length ≤ cap ∧
      ((cap = 0 ∧ xs = []) ∨ ∃ l cells T fr cs, ρ o = some l ∧ ad = some ⟨l.b, l.off, none⟩ ∧ w.heap[l.b]? = some (.cells cells T fr) ∧ l.off + cap * t.size ≤ cells.size ∧
        l.off + cs.length ≤ cells.size ∧ seg cells l.off cs.length = cs ∧ Unfrozen fr l.off cells.size ∧ Pu w (Env.F ⟨w, s.o, ρ⟩) (.arr xs.length t) xs cs) ∧
      (∀ F, Outside s ρ [o] F → Pu w F (.sl t) xs [u]) := by
  obtain ⟨n, ad, cap, hu, hcap, c', hc', hk⟩ := hv
  have : c' = .bk t xs := by
    have h' : s.o o = some c' := hc'
    rw [hc] at h'; exact (Option.some.inj h').symm
  subst this
  rcases hk with hk | ⟨t', hsh, hk⟩
  · simp [AV.sh] at hk
  · simp only [AV.sh, Sh.bk.injEq] at hsh
    obtain ⟨rfl, rfl⟩ := hsh
    rcases hk with hk | ⟨l, cells, T, fr, hl, had, hb, hs⟩
    · have hx : xs = [] := List.eq_nil_of_length_eq_zero (by omega)
      refine ⟨ad, cap, hu, hcap, .inl ⟨hk, hx⟩, fun F hF => ?_⟩
      subst hx
      rw [hu]
      exact ⟨ad, cap, rfl, hcap, .inl rfl⟩
    · rcases h.ob o _ hc (by simp [AV.sh]) with ⟨l', cells', T', fr', cs, g1, g2, g3, g4, g5, g6⟩ | ⟨g1, _⟩
      · have e1 : l' = l := by
          have h1 : ρ o = some l' := g1
          have h2 : ρ o = some l := hl
          rw [h1] at h2; exact Option.some.inj h2
        subst e1
        have e2 : cells' = cells ∧ T' = T ∧ fr' = fr := by
          have h1 : w.heap[l'.b]? = some (.cells cells' T' fr') := g2
          have h2 : w.heap[l'.b]? = some (.cells cells T fr) := hb
          rw [h1] at h2; cases h2; exact ⟨rfl, rfl, rfl⟩
        obtain ⟨rfl, rfl, rfl⟩ := e2
        have g3' : Pu w (Env.F ⟨w, s.o, ρ⟩) (.arr xs.length t) xs cs := g3
        refine ⟨ad, cap, hu, hcap, .inr ⟨l', cells', T', fr', cs, g1, had, g2, hs, g4, g5, g6, g3'⟩, fun F hF => ?_⟩
        rw [hu]
        have := pu_window (t := t) (ad := ad) (off := 0) (len := xs.length) (k := 0) (m := xs.length) h hc rfl (fun b hb => by
          obtain ⟨o', c', l', h1, h2⟩ := hF b hb
          exact ⟨o', c', l', by simpa using h1, h2⟩) g1 g2 g4 g5 (by rw [g3'.2.1]; omega) (by rw [List.drop_zero, List.take_of_length_le (by rw [g3'.2.1]; omega)]; exact g3') (by omega) (by omega) rfl hcap
          (.inr (by rw [had]; simp))
        have hw : win xs 0 (xs.length : Int) = xs := by simp [win]
        rwa [hw] at this
      · have h1 : ρ o = none := g1
        have h2 : ρ o = some l := hl
        rw [h1] at h2; cases h2

theorem castL_pu {t u : Ty} {xs : List t.den} {ys : List u.den} (h : castL (u := u) xs = some ys) {w : World} {F : Nat → Prop} : (∀ cs, Pu w F (.sl t) xs cs → Pu w F (.sl u) ys cs) ∧
    ∀ off len cs, Pu w F (.sl t) (win xs off len) cs → Pu w F (.sl u) (win ys off len) cs := by
  obtain ⟨rfl, rfl⟩ := castL_some h
  exact ⟨fun _ h => h, fun _ _ _ h => h⟩

theorem out_ofP {α β : Type} {m : Option β} {k : β → Pg α} {r : α} (h : (ofP m k).Out s r s') : ∃ x, m = some x ∧ (k x).Out s r s' := by
  cases m with
  | none => exact h.elim
  | some x => exact ⟨x, rfl, h⟩

theorem exP_out {α : Type} (h : Rep W0 F0 ρ s a w) {r : α} : ∀ {t : Ty} {v : AV} {k : t.den → List Nat → Pg α} {cs : List Value}, Ce ⟨w, s.o, ρ⟩ v cs → (exP t v k).Out s r s' →
    ∃ x l, (k x l).Out s r s' ∧ v.sh = shT t ∧ ∀ F, Outside s ρ l F → Pu w F t x cs := by
  intro t
  have base : ∀ {t : Ty} {v : AV} {k : t.den → List Nat → Pg α} {cs : List Value}, Ce ⟨w, s.o, ρ⟩ v cs → (ofP (ofAV t v) fun x => k x []).Out s r s' →
      ∃ x l, (k x l).Out s r s' ∧ v.sh = shT t ∧ ∀ F, Outside s ρ l F → Pu w F t x cs := by
    intro t v k cs hc ho
    obtain ⟨x, hx, ho⟩ := out_ofP ho
    obtain ⟨h1, h2⟩ := pu_ofAV hx hc
    exact ⟨x, [], ho, h2, fun F hF => hF.pu h1⟩
  induction t with
  | pair A B iha ihb =>
    intro v k cs hc ho
    simp only [exP] at ho
    split at ho
    · obtain ⟨x, l, ho, hs, hp⟩ := iha hc.1 ho
      obtain ⟨y, m, ho, hs', hp'⟩ := ihb hc.2 ho
      refine ⟨(x, y), l ++ m, ho, by simp [AV.sh, shT, hs, hs'], fun F hF => ?_⟩
      have e : A.size = (shT A).size := (shT_size A).symm
      refine ⟨?_, ?_⟩
      · rw [e, ← hs]; exact hp F (hF.mono fun o ho => List.mem_append_left _ ho)
      · rw [e, ← hs]; exact hp' F (hF.mono fun o ho => List.mem_append_right _ ho)
    · exact ho.elim
  | sl t ih =>
    intro v k cs hc ho
    simp only [exP] at ho
    split at ho
    · obtain ⟨c, hcc, hd, ho⟩ := ho
      obtain ⟨u, rfl, hv⟩ := hc
      dsimp only at ho
      split at ho
      · rename_i hat
        obtain ⟨ys, hys, ho⟩ := out_ofP ho
        obtain ⟨_, _, _, _, _, _, _, _, _, hp⟩ := h.view hv hcc hd hat (.inl rfl)
        exact ⟨_, _, ho, rfl, fun F hF => (castL_pu hys).2 _ _ _ (hp F hF)⟩
      · rename_i hat
        obtain ⟨ys, hys, ho⟩ := out_ofP ho
        obtain ⟨_, _, _, _, _, _, _, _, _, hp⟩ := h.view hv hcc hd hat (.inr ⟨rfl, rfl⟩)
        exact ⟨_, _, ho, rfl, fun F hF => (castL_pu hys).2 _ _ _ (hp F hF)⟩
      · exact ho.elim
    · obtain ⟨c, hcc, hd, ho⟩ := ho
      obtain ⟨u, rfl, hv⟩ := hc
      dsimp only at ho
      split at ho
      · obtain ⟨ys, hys, ho⟩ := out_ofP ho
        obtain ⟨_, _, _, _, _, hp⟩ := h.full hv hcc
        exact ⟨_, _, ho, rfl, fun F hF => (castL_pu hys).1 _ (hp F hF)⟩
      · exact ho.elim
    · exact base hc ho
  | int i => intro v k cs hc ho; exact base hc ho
  | bool => intro v k cs hc ho; exact base hc ho
  | str => intro v k cs hc ho; exact base hc ho
  | nl => intro v k cs hc ho; exact base hc ho
  | arr n t ih => intro v k cs hc ho; exact base hc ho

/-! len -/
theorem out_len (h : Rep W0 F0 ρ s a w) {v r : AV} {u : Value} (hv : Val ⟨w, s.o, ρ⟩ v u) (ho : (lenPg v).Out s r s') : s' = s ∧ ∃ n : Nat, r = .int .i64 n ∧ ((∃ b, u = .string b ∧ n = b.size ∧ v = .str b) ∨ ∃ ad cap, u = .slice ad n cap) := by
  unfold lenPg at ho
  split at ho
  · obtain ⟨rfl, rfl⟩ := ho
    exact ⟨rfl, _, rfl, .inl ⟨_, hv.str_eq, rfl, rfl⟩⟩
  · obtain ⟨rfl, rfl⟩ := ho
    obtain ⟨ad, cap, e, _⟩ := hv.lst_eq
    simp at e
    exact ⟨rfl, _, rfl, .inr ⟨ad, cap, e⟩⟩
  · obtain ⟨rfl, rfl⟩ := ho
    exact ⟨rfl, 0, rfl, .inr ⟨_, _, hv.nils_eq⟩⟩
  · obtain ⟨rfl, rfl⟩ := ho
    obtain ⟨n, ad, cap, e, hn, _⟩ := hv.view_eq
    exact ⟨rfl, n, by rw [hn], .inr ⟨ad, cap, e⟩⟩
  · obtain ⟨c, hc, hd, ho⟩ := ho
    dsimp only at ho
    split at ho
    · obtain ⟨rfl, rfl⟩ := ho
      obtain ⟨ad, cap, e, _⟩ := h.full hv.full_eq hc
      exact ⟨rfl, _, rfl, .inr ⟨ad, cap, e⟩⟩
    · exact ho.elim
  · exact ho.elim
end
end Go.Ev
