/- A region of a drawn order does in every order what it does in the order of its text. -/
import Derived.Test.YtfdgkmligadcnaaEv23
set_option linter.unusedVariables false
set_option linter.unusedSimpArgs false
namespace Go.Ev
open Go

theorem edgeBits_test {es : List Edge} {ms : List Nat} {i : Nat} : (edgeBits es ms).testBit i = true ↔ ∃ e ∈ es, Region.binds .any e = true ∧ (e.on = i ∨ (ms.getD e.on 0).testBit i = true) := by
  induction es with
  | nil => simp [edgeBits]
  | cons e es ih =>
    simp only [edgeBits]
    by_cases hb : Region.binds .any e = true
    · rw [if_pos hb]
      show ((2 ^ e.on ||| ms.getD e.on 0) ||| edgeBits es ms).testBit i = true ↔ _
      rw [Nat.testBit_or, Nat.testBit_or, Nat.testBit_two_pow, Bool.or_eq_true, Bool.or_eq_true, ih]
      simp only [decide_eq_true_eq, List.mem_cons]
      constructor
      · rintro (h | ⟨e', h1, h2⟩)
        · exact ⟨e, .inl rfl, hb, h⟩
        · exact ⟨e', .inr h1, h2⟩
      · rintro ⟨e', rfl | h1, h2, h3⟩
        · exact .inl h3
        · exact .inr ⟨e', h1, h2, h3⟩
    · rw [if_neg hb, ih]
      constructor
      · rintro ⟨e', h1, h2⟩; exact ⟨e', List.mem_cons_of_mem _ h1, h2⟩
      · rintro ⟨e', h1, h2, h3⟩
        rcases List.mem_cons.1 h1 with rfl | h1
        · exact absurd h2 hb
        · exact ⟨e', h1, h2, h3⟩

theorem masks_prefix : ∀ {l : List Oper} {ms : List Nat} {i : Nat}, i < ms.length → (masks l ms).getD i 0 = ms.getD i 0 := by
  intro l
  induction l with
  | nil => intro ms i _; rfl
  | cons o l ih =>
    intro ms i hi
    simp only [masks]
    rw [ih (by simp; omega)]
    simp [List.getD, List.getElem?_append_left hi]

theorem edgesBack_spec : ∀ {l : List Oper} {i : Nat}, edgesBack l i = true → ∀ j o, l[j]? = some o → ∀ e ∈ o.after.toList, Region.binds .any e = true → e.on < i + j := by
  intro l
  induction l with
  | nil => intro i _ j o ho; simp at ho
  | cons x l ih =>
    intro i h j o ho e he hb
    simp only [edgesBack, Bool.and_eq_true] at h
    cases j with
    | zero =>
      simp at ho; subst ho
      have := List.all_eq_true.1 h.1 e he
      simp [hb] at this
      omega
    | succ j =>
      have := ih h.2 j o (by simpa using ho) e he hb
      omega

theorem masks_spec : ∀ {l : List Oper} {ms : List Nat}, edgesBack l ms.length = true → ∀ j o, l[j]? = some o → (masks l ms).getD (ms.length + j) 0 = edgeBits o.after.toList (masks l ms) := by
  intro l
  induction l with
  | nil => intro ms _ j o ho; simp at ho
  | cons x l ih =>
    intro ms h j o ho
    have h0 := h
    simp only [edgesBack, Bool.and_eq_true] at h
    simp only [masks]
    cases j with
    | zero =>
      simp at ho; subst ho
      rw [masks_prefix (by simp)]
      have e1 : (ms ++ [edgeBits x.after.toList ms]).getD (ms.length + 0) 0 = edgeBits x.after.toList ms := by simp [List.getD]
      rw [e1]
      have key : ∀ es : List Edge, (∀ e ∈ es, Region.binds .any e = true → e.on < ms.length) → edgeBits es ms = edgeBits es (masks l (ms ++ [edgeBits x.after.toList ms])) := by
        intro es
        induction es with
        | nil => intro _; rfl
        | cons e es ih2 =>
          intro hes
          simp only [edgeBits]
          rw [ih2 fun e' he' => hes e' (List.mem_cons_of_mem _ he')]
          by_cases hb : Region.binds .any e = true
          · have := hes e (List.mem_cons_self ..) hb
            rw [if_pos hb, if_pos hb, masks_prefix (by simp; omega)]
            congr 2
            simp [List.getD, List.getElem?_append_left this]
          · rw [if_neg hb, if_neg hb]
      exact key _ fun e he hb => by have := edgesBack_spec h0 0 x (by simp) e he hb; omega
    | succ j =>
      have := ih (ms := ms ++ [edgeBits x.after.toList ms]) (by simpa using h.2) j o (by simpa using ho)
      rw [← this]
      congr 1
      simp; omega

theorem clashAll_spec {ms : List Nat} {i : Nat} {f : Ft} : ∀ {acc : List (Nat × Ft)}, clashAll ms i f acc = false → ∀ q ∈ acc, (ms.getD i 0).testBit q.1 = true ∨ Ft.clash q.2 f = false := by
  intro acc
  induction acc with
  | nil => intro _ q hq; simp at hq
  | cons x acc ih =>
    intro h q hq
    simp only [clashAll, Bool.or_eq_false_iff, Bool.and_eq_false_iff, Bool.not_eq_false'] at h
    rcases List.mem_cons.1 hq with rfl | hq
    · exact h.1
    · exact ih h.2 q hq

section
variable {P : Program} {C : Cx} {W0 : World} {F0 : Base} {ρ : Nat → Option Loc} {s s' : St} {a : Act} {w : World}

/-- of two operations in the text's order: the first comes before the second, or they do not meet -/
def Free (ms : List Nat) (x y : Nat × Ft) : Prop := x.1 < y.1 ∧ ((ms.getD y.1 0).testBit x.1 = true ∨ Ft.clash x.2 y.2 = false)

theorem opsF_run {ops : List Oper} {ms : List Nat} {R : Type} {r : R} {k : St → Option R} : ∀ {l : List Oper} {i : Nat} {s s0 : St} {acc : List (Nat × Ft)}, Same s0 s → (∀ j o, l[j]? = some o → ops[i + j]? = some o) →
    opsF C ops ms l i s acc k = some r →
    ∃ L s1 s1', L.map (·.1) = List.range' i l.length ∧ RunL C ops L s0 s1 ∧ Same s1 s1' ∧ k s1' = some r ∧ L.Pairwise (Free ms) ∧ ∀ q ∈ acc, ∀ x ∈ L, (ms.getD x.1 0).testBit q.1 = true ∨ Ft.clash q.2 x.2 = false := by
  intro l
  induction l with
  | nil => intro i s s0 acc hs _ h; exact ⟨[], s0, s, rfl, Same.refl _, hs, h, List.Pairwise.nil, by simp⟩
  | cons o l ih =>
    intro i s s0 acc hs hl h
    simp only [opsF] at h
    obtain ⟨v, s1, s1', f, hf, hss, h⟩ := runF_foot hs h
    cases hc : clashAll ms i f acc with
    | true => simp [hc] at h
    | false =>
      simp only [hc, cond_false] at h
      cases hp : putDst o v s1' with
      | none => rw [hp] at h; simp at h
      | some s2 =>
        rw [hp] at h
        dsimp only at h
        have hp' : ∃ s2', putDst o v s1 = some s2' ∧ Same s2' s2 := by
          unfold putDst at hp ⊢
          cases hd : o.dst with
          | none => rw [hd] at hp; simp at hp; subst hp; exact ⟨s1, rfl, hss⟩
          | some d =>
            rw [hd] at hp
            dsimp only at hp ⊢
            rw [hss.n] at hp
            cases hlt : Nat.blt d s1.n with
            | false => simp [hlt] at hp
            | true => simp [hlt] at hp; subst hp; exact ⟨_, by simp [hlt], hss.setT d v⟩
        obtain ⟨s2', hp', hs2⟩ := hp'
        obtain ⟨L, t1, t1', g1, g2, g3, g4, g5, g6⟩ := ih hs2 (fun j o' ho' => by have := hl (j + 1) o' (by simpa using ho'); rw [← this]; congr 1; omega) h
        refine ⟨(i, f) :: L, t1, t1', by rw [List.map_cons, g1, List.length_cons, List.range'_succ], ⟨o, s2', by simpa using hl 0 o rfl, ⟨v, s1, hf, hp'⟩, g2⟩, g3, g4, List.pairwise_cons.2 ⟨fun x hx => ⟨?_, g6 (i, f) (List.mem_cons_self ..) x hx⟩, g5⟩, fun q hq x hx => ?_⟩
        · have : x.1 ∈ List.range' (i + 1) l.length := by rw [← g1]; exact List.mem_map.2 ⟨x, hx, rfl⟩
          rw [List.mem_range'_1] at this
          omega
        · rcases List.mem_cons.1 hx with rfl | hx
          · exact clashAll_spec hc q hq
          · exact g6 q (List.mem_cons_of_mem _ hq) x hx

theorem drawn_wp (hC : CxOK P C) {ops : Array Oper} {ms : List Nat} (hback : ∀ j o, ops[j]? = some o → ∀ e ∈ o.after.toList, Region.binds .any e = true → e.on < j)
    (hms : ∀ j o, ops[j]? = some o → ms.getD j 0 = edgeBits o.after.toList ms) {sf : St} {Q : Exit → Act → World → Prop} (hQ : ∀ s' a' w' ρ', Same s' sf → Rep W0 F0 ρ' s' a' w' → Q .normal a' w') :
    ∀ (n : Nat) {L : List (Nat × Ft)} {listed : Array Bool} {s : St} {a : Act} {w : World} {ρ : Nat → Option Loc}, L.length = n → listed.size = ops.size → (∀ j, j ∈ L.map (·.1) ↔ listed.getD j true = false) → L.Pairwise (Free ms) →
      (∀ j, listed.getD j false = true → ∀ i, (ms.getD j 0).testBit i = true → listed.getD i false = true) → RunL C ops.toList L s sf → Rep W0 F0 ρ s a w → wpAny P .any ops Q n listed a w := by
  intro n
  induction n with
  | zero =>
    intro L listed s a w ρ hn hsz hmem hpw hcl hrun h
    have : L = [] := List.eq_nil_of_length_eq_zero hn
    subst this
    refine ⟨?_, hQ s a w ρ hrun.symm.symm h⟩
    rw [List.eq_nil_iff_forall_not_mem]
    intro j hj
    have := (mem_ready.1 hj).1
    rw [← hmem] at this
    simp at this
  | succ n ih =>
    intro L listed s a w ρ hn hsz hmem hpw hcl hrun h
    refine ⟨fun h0 => ?_, fun j hj => ?_⟩
    · exfalso
      cases L with
      | nil => simp at hn
      | cons q L =>
        obtain ⟨o, s1, ho, _, _⟩ := hrun
        have hq : listed.getD q.1 true = false := (hmem q.1).1 (by simp)
        have : q.1 ∈ Region.ready .any ops listed := by
          refine mem_ready.2 ⟨hq, o, by simpa using ho, fun e he hb => ?_⟩
          have hlt := hback q.1 o (by simpa using ho) e (by simpa using he) hb
          cases hl : listed.getD e.on false with
          | true => rfl
          | false =>
            exfalso
            have hos : q.1 < ops.size := (Array.getElem?_eq_some_iff.1 (by simpa using ho : ops[q.1]? = some o)).1
            have hl2 : listed.getD e.on true = false := by
              have : e.on < listed.size := by omega
              simp [Array.getD, this] at hl ⊢
              exact hl
            have := (hmem e.on).2 hl2
            simp only [List.map_cons, List.mem_cons, List.mem_map] at this
            rcases this with e1 | ⟨x, hx, e1⟩
            · omega
            · have := ((List.pairwise_cons.1 hpw).1 x hx).1
              omega
        rw [h0] at this
        cases this
    · obtain ⟨hjl, o, ho, hall⟩ := mem_ready.1 hj
      have hm := (hmem j).2 hjl
      obtain ⟨q, hq, rfl⟩ := List.mem_map.1 hm
      obtain ⟨L1, L2, rfl⟩ := List.append_of_mem hq
      have hlist : ∀ i, (ms.getD q.1 0).testBit i = true → listed.getD i false = true := by
        intro i hi
        rw [hms q.1 o ho] at hi
        obtain ⟨e, he, hb, h1⟩ := edgeBits_test.1 hi
        have he' : listed.getD e.on false = true := hall e (by simpa using he) hb
        rcases h1 with rfl | h1
        · exact he'
        · exact hcl _ he' i h1
      have hfree : ∀ x, x ∈ L1 → Ft.clash x.2 q.2 = false := by
        intro x hx
        have h1 := (List.pairwise_append.1 hpw).2.2 x hx q (List.mem_cons_self ..)
        refine h1.2.resolve_left fun hb => ?_
        have h2 := hlist x.1 hb
        have h3 := (hmem x.1).1 (List.mem_map.2 ⟨x, List.mem_append_left _ hx, rfl⟩)
        by_cases hlt : x.1 < listed.size
        · simp [Array.getD, hlt] at h2 h3; rw [h2] at h3; cases h3
        · simp [Array.getD, hlt] at h2
      have hfront := hrun.front hfree
      obtain ⟨o', s1, ho', hstep, hrest⟩ := hfront
      have : o' = o := by
        have e1 : ops[q.1]? = some o' := by simpa using ho'
        rw [ho] at e1; exact (Option.some.inj e1).symm
      subst this
      unfold wpOp
      rw [ho]
      dsimp only
      have hnot : ∀ x, x ∈ L1 ++ L2 → x.1 ≠ q.1 := by
        intro x hx
        rcases List.mem_append.1 hx with hx | hx
        · have := ((List.pairwise_append.1 hpw).2.2 x hx q (List.mem_cons_self ..)).1
          omega
        · have := ((List.pairwise_cons.1 (List.pairwise_append.1 hpw).2.1).1 x hx).1
          omega
      have hqs : q.1 < listed.size := by
        by_cases hlt : q.1 < listed.size
        · exact hlt
        · simp [Array.getD, hlt] at hjl
      have := step_wp hC h (ops := ops) (Q := Q) (K := wpAny P .any ops Q n (listed.setIfInBounds q.1 true)) hstep.to fun a' w' ρ' hr => ?_
      · by_cases hw : Region.wanted o' (yielded ops a.tmps) = true
        · rw [if_pos hw] at this; simp only [hw, if_true]; exact .inl this
        · rw [if_neg hw] at this; simp only [hw]; exact this
      · refine ih (L := L1 ++ L2) (by simp at hn ⊢; omega) (by simpa using hsz) (fun i => ?_) ?_ (fun i hi x hx => ?_) hrest hr
        · by_cases e : q.1 = i
          · subst e
            constructor
            · intro h1
              obtain ⟨x, hx, e1⟩ := List.mem_map.1 h1
              exact absurd e1 (hnot x hx)
            · intro h1
              exfalso
              simp [Array.getD, hqs] at h1
          · rw [getD_set_ne true e, ← hmem i]
            simp only [List.map_append, List.map_cons, List.mem_append, List.mem_cons]
            constructor
            · rintro (h1 | h1)
              · exact .inl h1
              · exact .inr (.inr h1)
            · rintro (h1 | h1 | h1)
              · exact .inl h1
              · exact absurd h1.symm e
              · exact .inr h1
        · exact hpw.sublist ((List.Sublist.refl L1).append (List.sublist_cons_self _ _))
        · by_cases e : q.1 = i
          · subst e
            exact getD_set_true (hlist x hx)
          · rw [getD_set_ne false e] at hi
            exact getD_set_true (hcl i hi x hx)

theorem region_wp (hC : CxOK P C) (hm : P.follows .mixedOrders = true) {ops : Array Oper} {draw : Bool} {id : Nat} {R : Type} {r : R} {k : St → Option R} {Q : Exit → Act → World → Prop}
    (hQ : ∀ s' a' w' ρ', Rep W0 F0 ρ' s' a' w' → k s' = some r → Q .normal a' w') (h : Rep W0 F0 ρ s a w)
    (hk : (if draw = true then (bif edgesBack ops.toList 0 then opsF C ops.toList (masks ops.toList []) ops.toList 0 s [] k else none) else opsK C ops.toList ops.toList s k) = some r) :
    (Code.region id ops draw).wp P Q a w := by
  cases draw with
  | false =>
    simp only [Bool.false_eq_true, if_false] at hk
    exact wp_region_list (opsK_wp hC hQ h hk)
  | true =>
    simp only [if_true] at hk
    cases he : edgesBack ops.toList 0 with
    | false => simp [he] at hk
    | true =>
      simp only [he, cond_true] at hk
      obtain ⟨L, s1, s1', g1, g2, g3, g4, g5, _⟩ := opsF_run (Same.refl s) (fun j o ho => by simpa using ho) hk
      refine wp_region_any hm ?_
      have hlen : L.length = ops.size := by
        have := congrArg List.length g1
        simpa using this
      have := drawn_wp hC (ops := ops) (ms := masks ops.toList []) (sf := s1) (Q := Q) (W0 := W0) (F0 := F0) (fun j o ho e he' hb => by have := edgesBack_spec he j o (by simpa using ho) e he' hb; omega)
        (fun j o ho => by have := masks_spec (ms := []) he j o (by simpa using ho); simpa using this)
        (fun s' a' w' ρ' hs hr => hQ s1' a' w' ρ' (hr.same (hs.trans g3)) g4)
        ops.size (L := L) (listed := Array.replicate ops.size false) (s := s) (a := a) (w := { w with drawn := w.drawn + 1 }) (ρ := ρ) hlen (by simp)
        (fun j => by
          rw [g1, List.mem_range'_1]
          by_cases hj : j < ops.size
          · simp [Array.getD, hj]
          · simp [Array.getD, hj])
        g5
        (fun j hj => by
          exfalso
          by_cases hlt : j < ops.size
          · simp [Array.getD, hlt] at hj
          · simp [Array.getD, hlt] at hj)
        g2 h.drew
      exact this
end
end Go.Ev
