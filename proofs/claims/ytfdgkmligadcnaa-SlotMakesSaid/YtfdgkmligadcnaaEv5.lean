/- What single reads and writes of the machine come to. -/
import Derived.Test.YtfdgkmligadcnaaEv4
set_option linter.unusedVariables false
set_option linter.unusedSimpArgs false
namespace Go.Ev
open Go

theorem addr_add (b off n : Nat) : (⟨b, off, none⟩ : Addr).add n = ⟨b, off + n, none⟩ := by
  unfold Addr.add
  split
  · rename_i h; subst h; rfl
  · rfl

section
variable {P : Program} {w : World}

def descAgg : TypeDesc → Bool
  | .struct _ => true
  | .array _ _ => true
  | _ => false

theorem run_isAgg {T : TypeId} {d : TypeDesc} (hd : P.underlying T = some d) : (isAgg T).run P w = .ok (descAgg d) w := by
  unfold isAgg
  rw [Sem.run_bind, run_underlying hd w]
  cases d <;> rfl
theorem run_sizeOf {T : TypeId} {i : TypeInfo} (hi : P.info? T = some i) : (sizeOf T).run P w = .ok i.size w := by
  simp [sizeOf, typeInfo, hi]
theorem run_typeInfo' {T : TypeId} {i : TypeInfo} (hi : P.info? T = some i) : (typeInfo T).run P w = .ok i w := by
  simp [typeInfo, hi]
theorem run_zeroValue {T : TypeId} {i : TypeInfo} {z : Value} (hi : P.info? T = some i) (hz : i.zero = some z) : (zeroValue T).run P w = .ok z w := by
  simp [zeroValue, typeInfo, hi, hz]

theorem run_loadCells_seg {b off n : Nat} {cells : Array Value} {T : TypeId} {fr : Nat × Nat} (hb : w.heap[b]? = some (.cells cells T fr)) (hf : off + n ≤ cells.size) :
    (loadCells ⟨b, off, none⟩ n).run P w = .ok (seg cells off n).toArray w := by
  have hl := seg_length hf
  have := run_loadCells_list (P := P) w ⟨b, off, none⟩ (seg cells off n) (fun j v hv => by
    have hj : j < n := by
      have := (List.getElem?_eq_some_iff.1 hv).1
      omega
    rw [addr_add]
    simp only [World.cell?, hb]
    simp only [seg, List.getElem?_take, if_pos hj, List.getElem?_drop] at hv
    simpa using hv)
  rwa [hl] at this

theorem run_loadVar_seg {T : TypeId} {d : TypeDesc} {i : TypeInfo} (hd : P.underlying T = some d) (hi : P.info? T = some i) {b off : Nat} {cells : Array Value} {T' : TypeId} {fr : Nat × Nat}
    (hb : w.heap[b]? = some (.cells cells T' fr)) (hf : off + i.size ≤ cells.size) (ha : descAgg d = true) :
    (loadVar T ⟨b, off, none⟩).run P w = .ok (.agg (seg cells off i.size).toArray) w := by
  unfold loadVar
  simp [Sem.run_bind, run_isAgg hd, ha, run_sizeOf hi, run_loadCells_seg hb hf]
theorem run_loadVar_one {T : TypeId} {d : TypeDesc} (hd : P.underlying T = some d) {b off : Nat} {cells : Array Value} {T' : TypeId} {fr : Nat × Nat} {u : Value}
    (hb : w.heap[b]? = some (.cells cells T' fr)) (hu : seg cells off 1 = [u]) (ha : descAgg d = false) :
    (loadVar T ⟨b, off, none⟩).run P w = .ok u w := by
  have h1 : cells[off]? = some u := by
    have : (seg cells off 1)[0]? = some u := by rw [hu]; rfl
    simpa [seg, List.getElem?_take] using this
  unfold loadVar
  simp [Sem.run_bind, run_isAgg hd, ha, World.cell?, hb, h1]

def splA (cells : Array Value) (k : Nat) (vs : List Value) : Array Value := (spl cells.toList k vs).toArray
theorem splA_size {cells : Array Value} {k : Nat} {vs : List Value} (h : k + vs.length ≤ cells.size) : (splA cells k vs).size = cells.size := by
  simp only [splA, List.size_toArray]; rw [spl_length (by simpa using h)]; simp
theorem seg_splA_same {cells : Array Value} {l k n : Nat} {vs : List Value} (h2 : k + vs.length ≤ n) (h : l + n ≤ cells.size) : seg (splA cells (l + k) vs) l n = spl (seg cells l n) k vs := by
  unfold seg splA
  rw [List.toList_toArray, seg_spl_in (by omega) (by omega) (by simpa using h), show l + k - l = k by omega]

theorem run_storeCells_spl {b : Nat} {T : TypeId} {fr : Nat × Nat} (off : Nat) : ∀ (vs : List Value) (i : Nat) (cells : Array Value) (w : World), w.heap[b]? = some (.cells cells T fr) → off + i + vs.length ≤ cells.size →
    Unfrozen fr (off + i) cells.size → (∀ v ∈ vs, v.oneCell' = true) → (storeCells ⟨b, off, none⟩ vs i).run P w = .ok () (w.setRow b (splA cells (off + i) vs))
  | [], i, cells, w, hb, hf, hu, h1 => by
    have : splA cells (off + i) [] = cells := by
      unfold splA spl
      simp
    rw [this]
    have hlt : b < w.heap.size := (Array.getElem?_eq_some_iff.1 hb).1
    have hv : w.heap[b] = .cells cells T fr := (Array.getElem?_eq_some_iff.1 hb).2
    simp only [storeCells]
    show Result.ok () w = _
    congr 1
    unfold World.setRow
    cases w with
    | mk heap tape drawn os output =>
      congr 1
      apply Array.ext
      · simp
      · intro k h1 h2
        simp only [Array.getElem_modify]
        split
        · rename_i hk; subst hk; simp at hv; simp [hv]
        · rfl
  | v :: rest, i, cells, w, hb, hf, hu, h1 => by
    simp only [List.length_cons] at hf
    have hi : off + i < cells.size := by omega
    have hcell : w.cell? ⟨b, off + i, none⟩ = some cells[off + i] := by simp [World.cell?, hb, hi]
    have hfro : w.frozen? ⟨b, off + i, none⟩ = false := by
      have := hu (off + i) (Nat.le_refl _) hi
      simp only [World.frozen?, hb]
      simpa using this
    have hst : (store ((⟨b, off, none⟩ : Addr).add i) v).run P w = .ok () (w.setRow b (cells.setIfInBounds (off + i) v)) := by
      rw [addr_add, run_store P w _ v _ (h1 v (by simp)), hcell]
      simp [hfro, setCell_eq_setRow w b (off + i) cells T fr v hb]
    have ih := run_storeCells_spl off rest (i + 1) (cells.setIfInBounds (off + i) v) (w.setRow b (cells.setIfInBounds (off + i) v)) (setRow_heap w b cells _ T fr hb) (by simp; omega)
      (fun j hj hk => hu j (by omega) (by simpa using hk)) (fun x hx => h1 x (by simp [hx]))
    simp only [storeCells, Sem.run_bind, hst, Result.andThen_ok, ih, setRow_setRow]
    congr 2
    unfold splA
    congr 1
    apply List.ext_getElem?
    intro k
    rw [spl_get (by simp; omega), spl_get (by simp; omega)]
    simp only [Array.toList_setIfInBounds, List.length_cons]
    by_cases c1 : k < off + i
    · rw [if_pos (by omega), if_pos c1, List.getElem?_set, if_neg (by omega)]
    · rw [if_neg c1]
      by_cases c2 : k = off + i
      · subst c2
        rw [if_pos (by omega), if_pos (by omega), List.getElem?_set, if_pos rfl]
        simp [hi]
      · rw [if_neg (by omega)]
        by_cases c3 : k < off + i + (rest.length + 1)
        · rw [if_pos (by omega), if_pos c3]
          rw [show k - (off + i) = (k - (off + (i + 1))) + 1 by omega, List.getElem?_cons_succ]
        · rw [if_neg (by omega), if_neg c3, List.getElem?_set, if_neg (by omega)]

theorem pu_one {F : Nat → Prop} : ∀ {t : Ty} {x : t.den} {cs : List Value}, Pu w F t x cs → ∀ v ∈ cs, v.oneCell' = true := by
  intro t
  induction t with
  | int k => intro x cs h; simp only [Pu] at h; subst h; simp [Value.oneCell']
  | bool => intro x cs h; simp only [Pu] at h; subst h; simp [Value.oneCell']
  | str => intro x cs h; simp only [Pu] at h; subst h; simp [Value.oneCell']
  | nl => intro x cs h; simp only [Pu] at h; subst h; simp
  | pair a b iha ihb =>
    intro x cs h v hv
    rw [← List.take_append_drop a.size cs] at hv
    rcases List.mem_append.1 hv with hv | hv
    · exact iha h.1 v hv
    · exact ihb h.2 v hv
  | arr n t ih =>
    intro x cs h v hv
    obtain ⟨q, hq, rfl⟩ := List.mem_iff_getElem.1 hv
    have hq' := hq
    rw [h.2.1] at hq'
    have hs : 0 < t.size := by
      rcases Nat.eq_zero_or_pos t.size with e | e
      · rw [e] at hq'; omega
      · exact e
    have hi : q / t.size < n := by rw [Nat.div_lt_iff_lt_mul hs]; exact hq'
    refine ih (h.2.2 _ hi) _ ?_
    rw [List.mem_iff_getElem?]
    refine ⟨q % t.size, ?_⟩
    rw [List.getElem?_take, if_pos (Nat.mod_lt _ hs), List.getElem?_drop, Nat.mul_comm, Nat.div_add_mod, List.getElem?_eq_getElem hq]
  | sl t ih => intro x cs h; obtain ⟨a, cap, rfl, _⟩ := h; simp [Value.oneCell']

theorem ce_one {E : Env} : ∀ {c : AV} {cs : List Value}, Ce E c cs → ∀ v ∈ cs, v.oneCell' = true := by
  intro c
  induction c with
  | top => intro cs h; exact h.elim
  | tup c => intro cs h; exact h.elim
  | cons a b iha ihb =>
    intro cs h v hv
    rw [← List.take_append_drop a.sh.size cs] at hv
    rcases List.mem_append.1 hv with hv | hv
    · exact iha h.1 v hv
    · exact ihb h.2 v hv
  | arr t n xs => intro cs h; exact pu_one (t := .arr n t) h
  | bk t xs => intro cs h; exact pu_one (t := .arr xs.length t) h
  | lst t xs => intro cs h; exact pu_one (t := .sl t) h
  | ref o p => intro cs h; obtain ⟨a, rfl, _⟩ := h; simp [Value.oneCell']
  | pref t x => intro cs h; obtain ⟨a, rfl, _⟩ := h; simp [Value.oneCell']
  | view o p off len => intro cs h; obtain ⟨v, rfl, n, a, cap, rfl, _⟩ := h; simp [Value.oneCell']
  | full o => intro cs h; obtain ⟨v, rfl, n, a, cap, rfl, _⟩ := h; simp [Value.oneCell']
  | iface T v => intro cs h; obtain ⟨a, rfl, _⟩ := h; simp [Value.oneCell']
  | _ => intro cs h; simp only [Ce] at h; subst h; simp [Value.oneCell']
end
#print axioms ce_one
end Go.Ev
