/- Parts of contents: where they lie, what they hold, what becomes of the whole when one is replaced. -/
import Derived.Test.YtfdgkmligadcnaaEv2
set_option linter.unusedVariables false
set_option linter.unusedSimpArgs false
namespace Go.Ev
open Go

theorem shT_size : ∀ t : Ty, (shT t).size = t.size := by
  intro t
  induction t <;> simp_all [shT, Sh.size, Ty.size]
theorem toAV_sh : ∀ (t : Ty) (x : t.den), (toAV t x).sh = shT t := by
  intro t
  induction t with
  | pair a b iha ihb => intro x; simp [toAV, AV.sh, shT, iha, ihb]
  | _ => intro x; rfl
theorem toAV_size (t : Ty) (x : t.den) : (toAV t x).sh.size = t.size := by rw [toAV_sh, shT_size]

theorem ce_toAV {E : Env} : ∀ {t : Ty} {x : t.den} {cs : List Value}, Pu E.w E.F t x cs → Ce E (toAV t x) cs := by
  intro t
  induction t with
  | pair a b iha ihb =>
    intro x cs h
    refine ⟨?_, ?_⟩
    · rw [toAV_size]; exact iha h.1
    · rw [toAV_size]; exact ihb h.2
  | _ => intro x cs h; exact h

theorem castL_some {t u : Ty} {xs : List t.den} {ys : List u.den} (h : castL (u := u) xs = some ys) : ∃ e : t = u, e ▸ xs = ys := by
  unfold castL at h
  split at h
  · rename_i e; exact ⟨e, by simpa using h⟩
  · cases h

theorem pu_ofAV {E : Env} : ∀ {t : Ty} {v : AV} {x : t.den} {cs : List Value}, ofAV t v = some x → Ce E v cs → Pu E.w E.F t x cs ∧ v.sh = shT t := by
  intro t
  induction t with
  | int k =>
    intro v x cs h hc
    cases v <;> simp [ofAV] at h
    obtain ⟨rfl, rfl⟩ := h
    exact ⟨hc, rfl⟩
  | bool =>
    intro v x cs h hc
    cases v <;> simp [ofAV] at h
    subst h
    exact ⟨hc, rfl⟩
  | str =>
    intro v x cs h hc
    cases v <;> simp [ofAV] at h
    subst h
    exact ⟨hc, rfl⟩
  | nl =>
    intro v x cs h hc
    cases v <;> simp [ofAV] at h
    exact ⟨hc, rfl⟩
  | pair a b iha ihb =>
    intro v x cs h hc
    cases v with
    | cons u r =>
      simp only [ofAV] at h
      split at h
      · rename_i y hy
        split at h
        · rename_i z hz
          simp only [Option.some.injEq] at h
          subst h
          obtain ⟨p1, s1⟩ := iha hy hc.1
          obtain ⟨p2, s2⟩ := ihb hz hc.2
          rw [s1, shT_size] at p1 p2
          exact ⟨⟨p1, p2⟩, by simp [AV.sh, shT, s1, s2]⟩
        · cases h
      · cases h
    | _ => simp [ofAV] at h
  | arr n t ih =>
    intro v x cs h hc
    cases v with
    | arr t' n' xs =>
      simp only [ofAV] at h
      split at h
      · rename_i e
        obtain ⟨rfl, h⟩ := castL_some h
        subst h
        subst e
        exact ⟨hc, rfl⟩
      · cases h
    | _ => simp [ofAV] at h
  | sl t ih =>
    intro v x cs h hc
    cases v with
    | lst t' xs =>
      simp only [ofAV] at h
      obtain ⟨rfl, h⟩ := castL_some h
      subst h
      exact ⟨hc, rfl⟩
    | nils =>
      simp only [ofAV, Option.some.injEq] at h
      subst h
      simp only [Ce] at hc
      subst hc
      exact ⟨⟨none, 0, rfl, by simp, .inl rfl⟩, rfl⟩
    | _ => simp [ofAV] at h

/-! fields -/
theorem nth_sh : ∀ {c : AV} {i : Nat} {d : AV}, c.nth i = some d → ∃ k, c.sh.nth i = some (k, d.sh) := by
  intro c
  induction c with
  | cons h t ih1 ih2 =>
    intro i d hd
    cases i with
    | zero => simp only [AV.nth, Option.some.injEq] at hd; subst hd; exact ⟨0, rfl⟩
    | succ i =>
      simp only [AV.nth] at hd
      obtain ⟨k, hk⟩ := ih2 hd
      exact ⟨h.sh.size + k, by simp [AV.sh, Sh.nth, hk]⟩
  | _ => intro i d hd; simp [AV.nth] at hd
theorem nth_sh' : ∀ {c : AV} {i k : Nat} {e : Sh}, c.sh.nth i = some (k, e) → ∃ d, c.nth i = some d ∧ d.sh = e := by
  intro c
  induction c with
  | cons h t ih1 ih2 =>
    intro i k e hd
    cases i with
    | zero => simp [AV.sh, Sh.nth] at hd; exact ⟨h, rfl, hd.2⟩
    | succ i =>
      simp only [AV.sh, Sh.nth] at hd
      split at hd
      · rename_i k' s hk
        simp at hd
        obtain ⟨d, h1, h2⟩ := ih2 hk
        exact ⟨d, h1, h2.trans hd.2⟩
      · cases hd
  | _ => intro i k e hd; simp [AV.sh, Sh.nth] at hd
theorem sh_nth_le : ∀ {s : Sh} {i k : Nat} {e : Sh}, s.nth i = some (k, e) → k + e.size ≤ s.size := by
  intro s
  induction s with
  | cons a b iha ihb =>
    intro i k e h
    cases i with
    | zero => simp [Sh.nth] at h; obtain ⟨rfl, rfl⟩ := h; simp [Sh.size]
    | succ i =>
      simp only [Sh.nth] at h
      split at h
      · rename_i k' s' hk
        simp at h
        obtain ⟨rfl, rfl⟩ := h
        have := ihb hk
        simp only [Sh.size]; omega
      · cases h
  | _ => intro i k e h; simp [Sh.nth] at h
theorem ce_nth {E : Env} : ∀ {c : AV} {i : Nat} {d : AV} {k : Nat} {cs : List Value}, c.nth i = some d → c.sh.nth i = some (k, d.sh) → Ce E c cs → Ce E d ((cs.drop k).take d.sh.size) := by
  intro c
  induction c with
  | cons h t ih1 ih2 =>
    intro i d k cs hd hk hc
    cases i with
    | zero =>
      simp only [AV.nth, Option.some.injEq] at hd; subst hd
      simp [AV.sh, Sh.nth] at hk; subst hk
      simpa using hc.1
    | succ i =>
      simp only [AV.nth] at hd
      simp only [AV.sh, Sh.nth] at hk
      split at hk
      · rename_i k' s' hk'
        simp at hk
        obtain ⟨rfl, rfl⟩ := hk
        have := ih2 hd hk' hc.2
        rwa [List.drop_drop] at this
      · cases hk
  | _ => intro i d k cs hd; simp [AV.nth] at hd

theorem sh_size_zero_of_bad {c : AV} {E : Env} {cs : List Value} (h : Ce E c cs) : c.sh ≠ .bad := by
  cases c <;> simp [AV.sh] <;> exact h.elim

/-- the part at a path lies where the skeleton says -/
theorem at_off : ∀ {p : List PS} {c d : AV} {k : Nat} {e : Sh}, AV.at p c = some d → Sh.off p c.sh = some (k, e) → d.sh = e := by
  intro p
  induction p with
  | nil => intro c d k e h1 h2; simp [AV.at] at h1; simp [Sh.off] at h2; rw [← h1]; exact h2.2
  | cons a p ih =>
    intro c d k e h1 h2
    cases a with
    | fld i =>
      simp only [AV.at] at h1
      split at h1
      · rename_i d' hd'
        obtain ⟨k', hk'⟩ := nth_sh hd'
        simp only [Sh.off, hk'] at h2
        split at h2
        · rename_i j e' hj
          simp at h2
          exact (ih h1 hj).trans h2.2
        · cases h2
      · cases h1
    | idx i =>
      cases c with
      | arr t n xs =>
        simp only [AV.at] at h1
        simp only [AV.sh, Sh.off] at h2
        split at h2
        · split at h2
          · rename_i j e' hj
            simp at h2
            rw [← toAV_sh t (rd t xs i)] at hj
            exact (ih h1 hj).trans h2.2
          · cases h2
        · cases h2
      | bk t xs =>
        simp only [AV.at] at h1
        simp only [AV.sh, Sh.off] at h2
        split at h2
        · split at h2
          · rename_i j e' hj
            simp at h2
            rw [← toAV_sh t (rd t xs i)] at hj
            exact (ih h1 hj).trans h2.2
          · cases h2
        · cases h2
      | _ => simp [AV.at] at h1

theorem off_le : ∀ {p : List PS} {s : Sh} {k : Nat} {e : Sh}, Sh.off p s = some (k, e) → k + e.size ≤ s.size := by
  intro p
  induction p with
  | nil => intro s k e h; simp [Sh.off] at h; obtain ⟨rfl, rfl⟩ := h; simp
  | cons a p ih =>
    intro s k e h
    cases a with
    | fld i =>
      simp only [Sh.off] at h
      split at h
      · rename_i k' d hk'
        split at h
        · rename_i j e' hj
          simp at h
          obtain ⟨rfl, rfl⟩ := h
          have h1 := sh_nth_le hk'
          have h2 := ih hj
          omega
        · cases h
      · cases h
    | idx i =>
      have key : ∀ (t : Ty) (n : Nat), (if 0 ≤ i ∧ i < (n : Int) then (match Sh.off p (shT t) with | some (j, e) => some (i.toNat * t.size + j, e) | none => none) else none) = some (k, e) → k + e.size ≤ n * t.size := by
        intro t n h
        split at h
        · rename_i hi
          split at h
          · rename_i j e' hj
            simp at h
            obtain ⟨rfl, rfl⟩ := h
            have h2 := ih hj
            rw [shT_size] at h2
            have : (i.toNat + 1) * t.size ≤ n * t.size := Nat.mul_le_mul_right _ (by omega)
            rw [Nat.add_mul, Nat.one_mul] at this
            omega
          · cases h
        · cases h
      cases s with
      | arr t n => exact key t n h
      | bk t n => exact key t n h
      | _ => simp [Sh.off] at h

theorem drop_take_drop_take {α : Type} (cs : List α) (a n b m : Nat) (h : b + m ≤ n) : ((((cs.drop a).take n).drop b).take m) = (cs.drop (a + b)).take m := by
  rw [List.drop_take, List.take_take, List.drop_drop]
  congr 1
  omega

theorem ce_at {E : Env} : ∀ {p : List PS} {c d : AV} {k : Nat} {e : Sh} {cs : List Value}, AV.at p c = some d → Sh.off p c.sh = some (k, e) → Ce E c cs → Ce E d ((cs.drop k).take e.size) := by
  intro p
  induction p with
  | nil =>
    intro c d k e cs h1 h2 hc
    simp [AV.at] at h1; subst h1
    simp [Sh.off] at h2
    obtain ⟨rfl, rfl⟩ := h2
    rw [List.drop_zero, List.take_of_length_le (Nat.le_of_eq hc.len)]
    exact hc
  | cons a p ih =>
    intro c d k e cs h1 h2 hc
    cases a with
    | fld i =>
      simp only [AV.at] at h1
      split at h1
      · rename_i d' hd'
        obtain ⟨k', hk'⟩ := nth_sh hd'
        simp only [Sh.off, hk'] at h2
        split at h2
        · rename_i j e' hj
          simp at h2
          obtain ⟨rfl, rfl⟩ := h2
          have := ih h1 hj (ce_nth hd' hk' hc)
          rwa [drop_take_drop_take _ _ _ _ _ (off_le hj)] at this
        · cases h2
      · cases h1
    | idx i =>
      have key : ∀ (t : Ty) (n : Nat) (xs : List t.den), AV.at p (toAV t (rd t xs i)) = some d → Pu E.w E.F (.arr n t) xs cs →
          (if 0 ≤ i ∧ i < (n : Int) then (match Sh.off p (shT t) with | some (j, e) => some (i.toNat * t.size + j, e) | none => none) else none) = some (k, e) → Ce E d ((cs.drop k).take e.size) := by
        intro t n xs h1 hc h2
        split at h2
        · rename_i hi
          split at h2
          · rename_i j e' hj
            simp at h2
            obtain ⟨rfl, rfl⟩ := h2
            rw [← toAV_sh t (rd t xs i)] at hj
            have := ih h1 hj (ce_toAV (hc.2.2 i.toNat (by omega)))
            have hle := off_le hj
            rw [toAV_size] at hle
            rwa [drop_take_drop_take _ _ _ _ _ hle] at this
          · cases h2
        · cases h2
      cases c with
      | arr t n xs => exact key t n xs h1 hc h2
      | bk t xs => exact key t xs.length xs h1 hc h2
      | _ => simp [AV.at] at h1

/-! a part replaced -/
def spl (cs : List Value) (k : Nat) (vs : List Value) : List Value := cs.take k ++ vs ++ cs.drop (k + vs.length)
theorem spl_length {cs vs : List Value} {k : Nat} (h : k + vs.length ≤ cs.length) : (spl cs k vs).length = cs.length := by
  simp [spl]; omega

theorem setNth_sh : ∀ {c : AV} {i : Nat} {d d' c' : AV}, c.nth i = some d → d'.sh = d.sh → c.setNth i d' = some c' → c'.sh = c.sh := by
  intro c
  induction c with
  | cons h t ih1 ih2 =>
    intro i d d' c' hd hs hc
    cases i with
    | zero => simp [AV.nth] at hd; simp [AV.setNth] at hc; subst hd; subst hc; simp [AV.sh, hs]
    | succ i =>
      simp only [AV.nth] at hd
      simp only [AV.setNth] at hc
      split at hc
      · rename_i t' ht'
        simp at hc; subst hc
        simp [AV.sh, ih2 hd hs ht']
      · cases hc
  | _ => intro i d d' c' hd; simp [AV.nth] at hd

theorem spl_get {cs vs : List Value} {k : Nat} (h : k + vs.length ≤ cs.length) (i : Nat) :
    (spl cs k vs)[i]? = if i < k then cs[i]? else if i < k + vs.length then vs[i - k]? else cs[i]? := by
  unfold spl
  rw [List.append_assoc, List.getElem?_append, List.length_take, Nat.min_eq_left (by omega)]
  split
  · rw [List.getElem?_take, if_pos (by assumption)]
  · rw [List.getElem?_append]
    by_cases h2 : i < k + vs.length
    · rw [if_pos (by omega), if_pos h2]
    · rw [if_neg (by omega), if_neg h2, List.getElem?_drop]
      congr 1; omega
theorem seg_spl_other {cs vs : List Value} {K a n : Nat} (h : K + vs.length ≤ cs.length) (ho : a + n ≤ K ∨ K + vs.length ≤ a) :
    ((spl cs K vs).drop a).take n = (cs.drop a).take n := by
  apply List.ext_getElem?
  intro i
  simp only [List.getElem?_take, List.getElem?_drop, spl_get h]
  split
  · split
    · rfl
    · rw [if_neg (by omega)]
  · rfl
theorem seg_spl_in {cs vs : List Value} {K a n : Nat} (h1 : a ≤ K) (h2 : K + vs.length ≤ a + n) (h : a + n ≤ cs.length) :
    ((spl cs K vs).drop a).take n = spl ((cs.drop a).take n) (K - a) vs := by
  apply List.ext_getElem?
  intro i
  rw [spl_get (by simp only [List.length_take, List.length_drop]; omega)]
  simp only [List.getElem?_take, List.getElem?_drop, spl_get (show K + vs.length ≤ cs.length by omega)]
  have e1 : (i < K - a) ↔ (a + i < K) := by omega
  have e2 : (i < K - a + vs.length) ↔ (a + i < K + vs.length) := by omega
  have e3 : i - (K - a) = a + i - K := by omega
  simp only [e1, e2, e3]
  by_cases c1 : i < n
  · simp only [if_pos c1]
  · have c2 : ¬ a + i < K := by omega
    have c3 : ¬ a + i < K + vs.length := by omega
    simp only [if_neg c1, if_neg c2, if_neg c3]
theorem take_spl_in {cs vs : List Value} {K n : Nat} (h2 : K + vs.length ≤ n) (h : n ≤ cs.length) : (spl cs K vs).take n = spl (cs.take n) K vs := by
  have := seg_spl_in (cs := cs) (vs := vs) (K := K) (a := 0) (n := n) (by omega) (by omega) (by omega)
  simpa using this
theorem take_spl_out {cs vs : List Value} {K n : Nat} (hk : K + vs.length ≤ cs.length) (h : n ≤ K) : (spl cs K vs).take n = cs.take n := by
  have := seg_spl_other (cs := cs) (vs := vs) (K := K) (a := 0) (n := n) hk (by omega)
  simpa using this
theorem drop_spl_in {cs vs : List Value} {K n : Nat} (hk : K + vs.length ≤ cs.length) (h : n ≤ K) : (spl cs K vs).drop n = spl (cs.drop n) (K - n) vs := by
  have := seg_spl_in (cs := cs) (vs := vs) (K := K) (a := n) (n := cs.length - n) h (by omega) (by omega)
  rwa [List.take_of_length_le (by simp [spl_length hk]), List.take_of_length_le (by simp)] at this
theorem drop_spl_out {cs vs : List Value} {K n : Nat} (hk : K + vs.length ≤ cs.length) (h : K + vs.length ≤ n) : (spl cs K vs).drop n = cs.drop n := by
  have := seg_spl_other (cs := cs) (vs := vs) (K := K) (a := n) (n := cs.length - n) hk (by omega)
  rwa [List.take_of_length_le (by simp [spl_length hk]), List.take_of_length_le (by simp)] at this

theorem ce_setNth {E : Env} : ∀ {c : AV} {i : Nat} {d d' c' : AV} {k : Nat} {cs : List Value} {j : Nat} {vs : List Value}, c.nth i = some d → c.sh.nth i = some (k, d.sh) → d'.sh = d.sh → c.setNth i d' = some c' → Ce E c cs →
    j + vs.length ≤ d.sh.size → Ce E d' (spl ((cs.drop k).take d.sh.size) j vs) → Ce E c' (spl cs (k + j) vs) := by
  intro c
  induction c with
  | cons h t ih1 ih2 =>
    intro i d d' c' k cs j vs hd hk hs hc' hc hj hd'
    have hlen := Ce.len hc
    simp only [AV.sh, Sh.size] at hlen
    cases i with
    | zero =>
      simp only [AV.nth, Option.some.injEq] at hd; subst hd
      simp [AV.sh, Sh.nth] at hk; subst hk
      simp [AV.setNth] at hc'; subst hc'
      refine ⟨?_, ?_⟩
      · rw [hs, Nat.zero_add, take_spl_in hj (by omega)]
        simpa using hd'
      · rw [hs, Nat.zero_add, drop_spl_out (by omega) hj]
        exact hc.2
    | succ i =>
      simp only [AV.nth] at hd
      simp only [AV.sh, Sh.nth] at hk
      simp only [AV.setNth] at hc'
      split at hk
      · rename_i k' s' hk'
        simp at hk
        obtain ⟨rfl, rfl⟩ := hk
        split at hc'
        · rename_i t' ht'
          simp at hc'; subst hc'
          have hle := sh_nth_le hk'
          refine ⟨?_, ?_⟩
          · rw [take_spl_out (by omega) (by omega)]; exact hc.1
          · rw [drop_spl_in (by omega) (by omega)]
            have := ih2 (j := j) (vs := vs) hd hk' hs ht' hc.2 hj (by rwa [List.drop_drop])
            rwa [show h.sh.size + k' + j - h.sh.size = k' + j by omega]
        · cases hc'
      · cases hk
  | _ => intro i d d' c' k cs j vs hd; simp [AV.nth] at hd

theorem put_sh : ∀ {p : List PS} {c v c' : AV}, AV.put p c v = some c' → c'.sh = c.sh := by
  intro p
  induction p with
  | nil => intro c v c' h; simp only [AV.put] at h; split at h <;> simp_all
  | cons a p ih =>
    intro c v c' h
    cases a with
    | fld i =>
      simp only [AV.put] at h
      split at h
      · rename_i d hd
        split at h
        · rename_i d' hd'
          exact setNth_sh hd (ih hd') h
        · cases h
      · cases h
    | idx i =>
      cases c with
      | arr t n xs =>
        simp only [AV.put] at h
        split at h
        · split at h
          · simp at h; subst h; rfl
          · cases h
        · cases h
      | bk t xs =>
        simp only [AV.put] at h
        split at h
        · split at h
          · simp at h; subst h; simp [AV.sh]
          · cases h
        · cases h
      | _ => simp [AV.put] at h

theorem pu_set {w : World} {F : Nat → Prop} {t : Ty} {n : Nat} {xs : List t.den} {cs : List Value} (h : Pu w F (.arr n t) xs cs) {i : Nat} (hi : i < n) {x : t.den} {j : Nat} {vs : List Value}
    (hj : j + vs.length ≤ t.size) (hx : Pu w F t x (spl ((cs.drop (i * t.size)).take t.size) j vs)) : Pu w F (.arr n t) (xs.set i x) (spl cs (i * t.size + j) vs) := by
  obtain ⟨h1, h2, h3⟩ := h
  have hfit : i * t.size + t.size ≤ cs.length := by
    rw [h2]
    have : (i + 1) * t.size ≤ n * t.size := Nat.mul_le_mul_right _ hi
    rwa [Nat.add_mul, Nat.one_mul] at this
  refine ⟨?_, ?_, fun m hm => ?_⟩
  · simpa using h1
  · rw [spl_length (by omega)]; exact h2
  · by_cases e : m = i
    · subst e
      rw [seg_spl_in (by omega) (by omega) hfit, show m * t.size + j - m * t.size = j by omega]
      rw [show (xs.set m x).getD m t.dflt = x by simp [List.getD, h1, hm]]
      exact hx
    · have hd : m * t.size + t.size ≤ i * t.size + j ∨ i * t.size + j + vs.length ≤ m * t.size := by
        rcases Nat.lt_or_gt_of_ne e with h | h
        · left
          have : (m + 1) * t.size ≤ i * t.size := Nat.mul_le_mul_right _ h
          rw [Nat.add_mul, Nat.one_mul] at this; omega
        · right
          have : (i + 1) * t.size ≤ m * t.size := Nat.mul_le_mul_right _ h
          rw [Nat.add_mul, Nat.one_mul] at this; omega
      rw [seg_spl_other (by omega) hd]
      rw [show (xs.set i x).getD m t.dflt = xs.getD m t.dflt by simp [List.getD, List.getElem?_set, Ne.symm e]]
      exact h3 m hm

theorem ce_put {E : Env} : ∀ {p : List PS} {c v c' : AV} {k : Nat} {e : Sh} {cs vs : List Value}, AV.put p c v = some c' → Sh.off p c.sh = some (k, e) → Ce E c cs → Ce E v vs → Ce E c' (spl cs k vs) ∧ vs.length = e.size := by
  intro p
  induction p with
  | nil =>
    intro c v c' k e cs vs h ho hc hv
    simp only [AV.put] at h
    split at h
    · rename_i hs
      simp at h; subst h
      simp [Sh.off] at ho
      obtain ⟨rfl, rfl⟩ := ho
      have l1 := hc.len
      have l2 := hv.len
      rw [hs] at l2
      refine ⟨?_, l2⟩
      have : spl cs 0 vs = vs := by
        unfold spl
        rw [List.take_zero, List.nil_append, List.drop_of_length_le (by omega), List.append_nil]
      rw [this]; exact hv
    · cases h
  | cons a p ih =>
    intro c v c' k e cs vs h ho hc hv
    cases a with
    | fld i =>
      simp only [AV.put] at h
      split at h
      · rename_i d hd
        split at h
        · rename_i d' hd'
          obtain ⟨k', hk'⟩ := nth_sh hd
          simp only [Sh.off, hk'] at ho
          split at ho
          · rename_i j e' hj
            simp at ho
            obtain ⟨rfl, rfl⟩ := ho
            obtain ⟨h1, h2⟩ := ih hd' hj (ce_nth hd hk' hc) hv
            have hle := off_le hj
            exact ⟨ce_setNth hd hk' (put_sh hd') h hc (by omega) h1, h2⟩
          · cases ho
        · cases h
      · cases h
    | idx i =>
      have key : ∀ (t : Ty) (n : Nat) (xs : List t.den) (d : AV) (x : t.den), AV.put p (toAV t (rd t xs i)) v = some d → ofAV t d = some x → Pu E.w E.F (.arr n t) xs cs →
          (if 0 ≤ i ∧ i < (n : Int) then (match Sh.off p (shT t) with | some (j, e) => some (i.toNat * t.size + j, e) | none => none) else none) = some (k, e) →
          Pu E.w E.F (.arr n t) (xs.set i.toNat x) (spl cs k vs) ∧ vs.length = e.size := by
        intro t n xs d x h1 h2 hc ho
        split at ho
        · rename_i hi
          split at ho
          · rename_i j e' hj
            simp at ho
            obtain ⟨rfl, rfl⟩ := ho
            rw [← toAV_sh t (rd t xs i)] at hj
            obtain ⟨h3, h4⟩ := ih h1 hj (ce_toAV (hc.2.2 i.toNat (by omega))) hv
            have hle := off_le hj
            rw [toAV_size] at hle
            exact ⟨pu_set hc (by omega) (by omega) (pu_ofAV h2 h3).1, h4⟩
          · cases ho
        · cases ho
      cases c with
      | arr t n xs =>
        simp only [AV.put] at h
        split at h
        · rename_i d hd
          split at h
          · rename_i x hx
            simp at h; subst h
            exact key t n xs d x hd hx hc ho
          · cases h
        · cases h
      | bk t xs =>
        simp only [AV.put] at h
        split at h
        · rename_i d hd
          split at h
          · rename_i x hx
            simp at h; subst h
            have := key t xs.length xs d x hd hx hc ho
            refine ⟨?_, this.2⟩
            show Pu _ _ (.arr (xs.set i.toNat x).length t) _ _
            rw [List.length_set]
            exact this.1
          · cases h
        · cases h
      | _ => simp [AV.put] at h
#print axioms ce_put
end Go.Ev
