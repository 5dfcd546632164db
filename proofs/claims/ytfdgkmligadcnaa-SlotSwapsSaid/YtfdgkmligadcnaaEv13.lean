/- Rows: what is read out of a slice, what is appended, copied and cleared. -/
import Derived.Test.YtfdgkmligadcnaaEv12
set_option linter.unusedVariables false
set_option linter.unusedSimpArgs false
namespace Go.Ev
open Go
section
variable {P : Program} {C : Cx} {W0 : World} {F0 : Base} {ρ : Nat → Option Loc} {s s' : St} {a : Act} {w : World}

/-- a plain value without slices: wherever -/
theorem Pu.anywhere {w w' : World} {F F' : Nat → Prop} : ∀ {t : Ty} {x : t.den} {cs : List Value}, t.noSl = true → Pu w F t x cs → Pu w' F' t x cs := by
  intro t
  induction t with
  | pair a b iha ihb =>
    intro x cs hn h
    simp only [Ty.noSl, Bool.and_eq_true] at hn
    exact ⟨iha hn.1 h.1, ihb hn.2 h.2⟩
  | arr n t ih => intro x cs hn h; exact ⟨h.1, h.2.1, fun i hi => ih hn (h.2.2 i hi)⟩
  | sl t ih => intro x cs hn h; simp [Ty.noSl] at hn
  | _ => intro x cs hn h; exact h

theorem pu_take {F : Nat → Prop} {t : Ty} {n m : Nat} {xs : List t.den} {cs : List Value} (h : Pu w F (.arr n t) xs cs) (hm : m ≤ n) : Pu w F (.arr m t) (xs.take m) (cs.take (m * t.size)) := by
  obtain ⟨h1, h2, h3⟩ := h
  have hle : m * t.size ≤ n * t.size := Nat.mul_le_mul_right _ hm
  refine ⟨by simp; omega, by simp; omega, fun i hi => ?_⟩
  have := h3 i (by omega)
  have e1 : (xs.take m).getD i t.dflt = xs.getD i t.dflt := by simp [List.getD, List.getElem?_take, hi]
  have e2 : ((cs.take (m * t.size)).drop (i * t.size)).take t.size = (cs.drop (i * t.size)).take t.size := by
    have hle2 := mul_succ_le (k := t.size) hi
    rw [List.drop_take, List.take_take]
    congr 1; omega
  rw [e1, e2]; exact this
theorem pu_append {F : Nat → Prop} {t : Ty} {n m : Nat} {xs ys : List t.den} {cs ds : List Value} (h : Pu w F (.arr n t) xs cs) (h' : Pu w F (.arr m t) ys ds) : Pu w F (.arr (n + m) t) (xs ++ ys) (cs ++ ds) := by
  obtain ⟨h1, h2, h3⟩ := h
  obtain ⟨k1, k2, k3⟩ := h'
  refine ⟨by simp; omega, by rw [List.length_append, Nat.add_mul]; omega, fun i hi => ?_⟩
  by_cases e : i < n
  · have hle := mul_succ_le (k := t.size) e
    have e1 : (xs ++ ys).getD i t.dflt = xs.getD i t.dflt := by simp [List.getD, List.getElem?_append, h1, e]
    rw [e1, List.drop_append_of_le_length (by omega), List.take_append_of_le_length (by rw [List.length_drop]; omega)]
    exact h3 i e
  · have e1 : (xs ++ ys).getD i t.dflt = ys.getD (i - n) t.dflt := by simp [List.getD, List.getElem?_append, h1, e]
    have e2 : i * t.size = cs.length + (i - n) * t.size := by
      rw [h2, ← Nat.add_mul]; congr 1; omega
    rw [e1, e2, List.drop_length_add_append]
    exact k3 (i - n) (by omega)

/-- the cells of a slice that is read -/
theorem sl_cells {F : Nat → Prop} {t : Ty} {ys : List t.den} {u : Value} (hp : Pu w F (.sl t) ys [u]) : ∃ ad cap, u = .slice ad ys.length cap ∧ ys.length ≤ cap ∧
    ∀ m, m ≤ ys.length → ∃ cs : Array Value, (Builtin.firstCells t.size m u).run P w = .ok cs w ∧ Pu w F (.arr m t) (ys.take m) cs.toList := by
  obtain ⟨ad, cap, hc, hcap, hp⟩ := hp
  simp only [List.cons.injEq, and_true] at hc
  subst hc
  refine ⟨ad, cap, rfl, hcap, fun m hm => ?_⟩
  by_cases hm0 : m = 0
  · subst hm0
    have hz : Pu w F (.arr 0 t) (ys.take 0) [] := ⟨by simp, by simp, fun i hi => by omega⟩
    cases ad with
    | none => exact ⟨#[], by simp [Builtin.firstCells], hz⟩
    | some x => exact ⟨#[], by simp [Builtin.firstCells, loadCells, loadCellsFrom], hz⟩
  · rcases hp with hp | ⟨b, off, cells, T, fr, rfl, hF, hb, hs, hel⟩
    · subst hp; simp at hm; omega
    · have hle : m * t.size ≤ ys.length * t.size := Nat.mul_le_mul_right _ hm
      refine ⟨_, by simp [Builtin.firstCells, run_loadCells_seg hb (show off + m * t.size ≤ cells.size by omega)]; rfl, ?_⟩
      refine ⟨by simp; omega, by simpa using seg_length (show off + m * t.size ≤ cells.size by omega), fun i hi => ?_⟩
      have hle2 := mul_succ_le (k := t.size) hi
      have e1 : (ys.take m).getD i t.dflt = ys.getD i t.dflt := by simp [List.getD, List.getElem?_take, hi]
      rw [e1]
      have := hel i (by omega)
      rwa [seg_sub (n := m * t.size) (by omega)] at this

theorem run_lenOf {ad : Option Addr} {n cap : Nat} : (Builtin.lenOf (.slice ad n cap)).run P w = .ok n w := rfl

/-- rows of zero values -/
theorem zero_row {t : Ty} {z : Array Value} (hz : z.size = t.size) (hp : ∀ w F, Pu w F t t.dflt z.toList) (n m : Nat) (hm : n ≤ m) {F : Nat → Prop} :
    Pu w F (.arr n t) (List.replicate n t.dflt) (((Array.range (m * z.size)).map fun i => z[i % z.size]!).toList.take (n * t.size)) := by
  have hle : n * t.size ≤ m * t.size := Nat.mul_le_mul_right _ hm
  refine ⟨by simp, by simp [hz, Nat.min_eq_left hm], fun i hi => ?_⟩
  have hle2 := mul_succ_le (k := t.size) hi
  have e1 : (List.replicate n t.dflt).getD i t.dflt = t.dflt := by simp [List.getD, hi]
  rw [e1]
  have e2 : ((((Array.range (m * z.size)).map fun i => z[i % z.size]!).toList.take (n * t.size)).drop (i * t.size)).take t.size = z.toList := by
    apply List.ext_getElem?
    intro j
    simp only [List.getElem?_take, List.getElem?_drop]
    by_cases hj : j < t.size
    · rw [if_pos hj, if_pos (by omega)]
      have h1 : i * t.size + j < m * z.size := by rw [hz]; omega
      have h2 : (i * t.size + j) % z.size = j := by
        rw [hz, Nat.add_comm, Nat.add_mul_mod_self_right, Nat.mod_eq_of_lt hj]
      have h3 : i * t.size + j < m * t.size := by omega
      have h2' : (i * t.size + j) % t.size = j := by rw [Nat.add_comm, Nat.add_mul_mod_self_right, Nat.mod_eq_of_lt hj]
      simp [hz, hj]
      exact ⟨i * t.size + j, by rw [List.getElem?_range h3], by rw [h2']; simp [hz, hj]⟩
    · rw [if_neg hj]
      symm
      rw [List.getElem?_eq_none]
      simp; omega
  rw [e2]; exact hp w F

theorem splice_getD {t : Ty} {xs zs : List t.den} {off : Int} (h0 : 0 ≤ off) (h : off + zs.length ≤ xs.length) (i : Nat) :
    (splice xs off zs).getD i t.dflt = if i < off.toNat then xs.getD i t.dflt else if i < off.toNat + zs.length then zs.getD (i - off.toNat) t.dflt else xs.getD i t.dflt := by
  unfold splice
  have hk : off.toNat + zs.length ≤ xs.length := by omega
  simp only [List.getD]
  rw [List.append_assoc, List.getElem?_append, List.length_take, Nat.min_eq_left (by omega)]
  by_cases c1 : i < off.toNat
  · rw [if_pos c1, if_pos c1, List.getElem?_take, if_pos c1]
  · rw [if_neg c1, if_neg c1, List.getElem?_append]
    by_cases c2 : i < off.toNat + zs.length
    · rw [if_pos (by omega), if_pos c2]
    · rw [if_neg (by omega), if_neg c2, List.getElem?_drop]
      congr 2; omega
theorem splice_length {α : Type} {xs zs : List α} {off : Int} (h0 : 0 ≤ off) (h : off + zs.length ≤ xs.length) : (splice xs off zs).length = xs.length := by
  simp [splice]; omega

theorem pu_splice {F : Nat → Prop} {t : Ty} {n : Nat} {xs zs : List t.den} {cs vs : List Value} (h : Pu w F (.arr n t) xs cs) (hz : Pu w F (.arr zs.length t) zs vs) {off : Int} (h0 : 0 ≤ off) (hf : off + zs.length ≤ n) :
    Pu w F (.arr n t) (splice xs off zs) (spl cs (off.toNat * t.size) vs) := by
  obtain ⟨h1, h2, h3⟩ := h
  obtain ⟨k1, k2, k3⟩ := hz
  have hfit : off.toNat * t.size + vs.length ≤ cs.length := by
    have : (off.toNat + zs.length) * t.size ≤ n * t.size := Nat.mul_le_mul_right _ (by omega)
    rw [Nat.add_mul] at this; omega
  refine ⟨by rw [splice_length h0 (by rw [h1]; exact hf)]; exact h1, by rw [spl_length hfit]; exact h2, fun i hi => ?_⟩
  have hle := mul_succ_le (k := t.size) hi
  rw [splice_getD h0 (by rw [h1]; exact hf)]
  by_cases c1 : i < off.toNat
  · rw [if_pos c1, seg_spl_other hfit (.inl (mul_succ_le c1))]
    exact h3 i hi
  · rw [if_neg c1]
    by_cases c2 : i < off.toNat + zs.length
    · rw [if_pos c2]
      have hj : i - off.toNat < zs.length := by omega
      have hle3 := mul_succ_le (k := t.size) hj
      have e : i * t.size = off.toNat * t.size + (i - off.toNat) * t.size := by rw [← Nat.add_mul]; congr 1; omega
      have := k3 _ hj
      have e2 : ((spl cs (off.toNat * t.size) vs).drop (i * t.size)).take t.size = (vs.drop ((i - off.toNat) * t.size)).take t.size := by
        apply List.ext_getElem?
        intro j
        simp only [List.getElem?_take, List.getElem?_drop, spl_get hfit]
        by_cases hjj : j < t.size
        · rw [if_pos hjj, if_neg (by omega), if_pos (by omega), if_pos hjj]
          congr 1; omega
        · rw [if_neg hjj, if_neg hjj]
      rw [e2]; exact this
    · rw [if_neg c2]
      have e : (off.toNat + zs.length) * t.size ≤ i * t.size := Nat.mul_le_mul_right _ (by omega)
      rw [Nat.add_mul] at e
      rw [seg_spl_other hfit (.inr (by omega))]
      exact h3 i hi

theorem spl_spl {cs vs : List Value} {k n j : Nat} (hn : k + n ≤ cs.length) (hj : j + vs.length ≤ n) : spl cs k (spl ((cs.drop k).take n) j vs) = spl cs (k + j) vs := by
  have hl : ((cs.drop k).take n).length = n := by simp; omega
  have hl2 : (spl ((cs.drop k).take n) j vs).length = n := by rw [spl_length (by omega)]; exact hl
  apply List.ext_getElem?
  intro i
  rw [spl_get (cs := cs) (k := k) (by omega) i, spl_get (cs := cs) (vs := vs) (k := k + j) (by omega) i, hl2]
  by_cases c1 : i < k
  · rw [if_pos c1, if_pos (by omega)]
  · rw [if_neg c1]
    by_cases c2 : i < k + n
    · rw [if_pos c2, spl_get (by omega) (i - k)]
      simp only [List.getElem?_take, List.getElem?_drop]
      by_cases c3 : i < k + j
      · rw [if_pos (by omega), if_pos c3, if_pos (by omega)]; congr 1; omega
      · rw [if_neg (by omega), if_neg c3]
        by_cases c4 : i < k + j + vs.length
        · rw [if_pos (by omega), if_pos c4]; congr 1; omega
        · rw [if_neg (by omega), if_neg c4, if_pos (by omega)]; congr 1; omega
    · rw [if_neg c2, if_neg (by omega), if_neg (by omega)]
end
end Go.Ev
