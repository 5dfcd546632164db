/- Compacting; the halves of a page merged again. -/
import Derived.Test.YtakncomdmgbjaaaT5
set_option linter.unusedVariables false
set_option linter.unusedSimpArgs false
set_option linter.unusedSectionVars false
set_option maxRecDepth 10000
namespace Go.Ev.L
open Go Go.Ev Go.Ev.M

theorem w8_inj {x y : Int} (hx : 0 ≤ x ∧ x < 18446744073709551616) (hy : 0 ≤ y ∧ y < 18446744073709551616) (h : w8 x = w8 y) : x = y := by
  simp only [w8, List.cons.injEq, and_true] at h
  omega
theorem b8_inj : ∀ {l m : List Int}, U64 l → U64 m → l.length = m.length → b8 l = b8 m → l = m := by
  intro l
  induction l with
  | nil =>
    intro m _ _ hl _
    cases m with
    | nil => rfl
    | cons y r => simp at hl
  | cons x r ih =>
    intro m h1 h2 hl h
    cases m with
    | nil => simp at hl
    | cons y t =>
      have e : w8 x ++ b8 r = w8 y ++ b8 t := h
      obtain ⟨e1, e2⟩ := List.append_inj e rfl
      rw [w8_inj (h1 x (List.mem_cons_self ..)) (h2 y (List.mem_cons_self ..)) e1, ih (fun z hz => h1 z (List.mem_cons_of_mem _ hz)) (fun z hz => h2 z (List.mem_cons_of_mem _ hz)) (by simpa using hl) e2]
theorem b8_range : ∀ (l : List Int) (x : Int), x ∈ b8 l → 0 ≤ x ∧ x < 256 := by
  intro l x hx
  unfold b8 at hx
  rw [List.mem_flatMap] at hx
  obtain ⟨w, _, hw⟩ := hx
  simp only [w8, List.mem_cons, List.not_mem_nil, or_false] at hw
  omega
theorem U_bytes {l : List Int} {n : Int} {s : ByteArray} (h : U l n = some s) {j : Nat} (hj : j < (b8 l).length) : (b8 l)[j] = B s j := by
  unfold U at h
  split at h
  · rename_i hz
    cases h
    have hB : B (strOf ((b8 l).take n.toNat)) j = ((((b8 l).take n.toNat).map fun n => UInt8.ofNat n.toNat).getD j 0).toNat := rfl
    rw [hB, List.getD_eq_getElem?_getD, List.getElem?_map, List.getElem?_take]
    by_cases c : j < n.toNat
    · rw [if_pos c, List.getElem?_eq_getElem hj]
      have hr := b8_range l _ (List.getElem_mem hj)
      simp only [Option.map_some, Option.getD_some]
      rw [UInt8.toNat_ofNat']
      omega
    · rw [if_neg c]
      unfold zeroFrom at hz
      rw [List.all_eq_true] at hz
      have hm : (b8 l)[j] ∈ (b8 l).drop n.toNat := by
        have e : ((b8 l).drop n.toNat)[j - n.toNat]'(by rw [List.length_drop]; omega) = (b8 l)[j] := by
          rw [List.getElem_drop]; congr 1; omega
        rw [← e]; exact List.getElem_mem _
      have := hz _ hm
      simpa using this
  · cases h
theorem U_unique {l m : List Int} {n n' : Int} {s : ByteArray} (h : U l n = some s) (h' : U m n' = some s) (hl : l.length = m.length) (h1 : U64 l) (h2 : U64 m) : l = m := by
  refine b8_inj h1 h2 hl (List.ext_getElem (by rw [b8_length, b8_length, hl]) fun j k1 k2 => ?_)
  rw [U_bytes h, U_bytes h']
theorem fence_unique {p q : List Int} (hp : PageOK p) (hq : PageOK q) {a : Int} (h0 : 0 ≤ a) (h1 : a + 4 ≤ 128) {s : ByteArray} (h : fenceS p a = some s) (h' : fenceS q a = some s) (j : Int) (j0 : a ≤ j) (j1 : j < a + 4) : G p j = G q j := by
  have hpa := hp.2.G a
  have hqa := hq.2.G a
  unfold fenceS at h h'
  split at h
  · cases h
  split at h'
  · cases h'
  have l1 : (win p (a + 1) 3).length = 3 := win_len (by omega) (by omega) (by rw [hp.1]; omega)
  have l2 : (win q (a + 1) 3).length = 3 := win_len (by omega) (by omega) (by rw [hq.1]; omega)
  have e1 := recs_sum.U_exact h hpa.1 (by rw [l1]; omega)
  have e2 := recs_sum.U_exact h' hqa.1 (by rw [l2]; omega)
  have e := U_unique h h' (by rw [l1, l2]) (hp.2.win _ _) (hq.2.win _ _)
  by_cases c : j = a
  · rw [c]; omega
  · have g1 := G_win (l := p) (a := a + 1) (n := 3) (by omega) (j - (a + 1)) (by omega) (by omega)
    have g2 := G_win (l := q) (a := a + 1) (n := 3) (by omega) (j - (a + 1)) (by omega) (by omega)
    rw [e] at g1
    rw [show a + 1 + (j - (a + 1)) = j by omega] at g1 g2
    rw [← g1, ← g2]

theorem fence_some {p : List Int} {a : Int} (h : (fenceS p a).isSome = true) : fenceS p a = some ((fenceS p a).getD eB) := by
  cases e : fenceS p a with
  | none => rw [e] at h; cases h
  | some s => rfl

theorem keep_put {X p : List Int} {x : Pr} (hp : PageOK p) (hX : PageOK X) (h : Room X x) (h' : Room (keepS X p) x) : putS (keepS X p) x = keepS (putS X x) p := by
  have hk := keepS_page (q := X) hp hX
  have g : ∀ j, 0 ≤ j → G (keepS X p) j = if j < 8 then G p j else G X j := G_keepS hp hX
  have hl1 : (putS (keepS X p) x).length = 128 := (putS_page h').1
  have hPX := putS_page h
  have hl2 : (keepS (putS X x) p).length = 128 := (keepS_page hp hPX).1
  refine list_ext_G (by rw [hl1, hl2]) fun j hj => ?_
  obtain ⟨n1, n2, n3, n4, n5, n6, n7⟩ := h.nums
  have ht := h.top
  obtain ⟨q1, q2⟩ := putS_pre h
  rw [G_putS h' _ (by omega), G_keepS hp hPX _ (by omega), G_putS h _ (by omega), g 9 (by omega), g 11 (by omega), g j (by omega)]
  simp only [show ¬ (9 : Int) < 8 by omega, show ¬ (11 : Int) < 8 by omega, if_false]
  by_cases c : (j : Int) < 8
  · rw [if_pos c, if_pos c, if_neg (by omega), if_neg (by omega), if_neg (by omega), if_neg (by omega)]
  · rw [if_neg c, if_neg c]

section
variable {l : List Pr} {E p : List Int} (hp : PageOK p) (hE : PageOK E) (hv : validB E = true) (ha : ∀ (k : Nat) (hk : k < l.length), allowedS (G E 8 == 1) ((count E : Int) + k) (l[k]) = 0) (hr : 20 + G E 9 + sumC l ≤ G E 11) (hlen : l.length ≤ 1000)
include hp hE hv ha hr hlen
theorem keep_pre : PageOK (keepS E p) ∧ validB (keepS E p) = true ∧ (∀ (k : Nat) (hk : k < l.length), allowedS (G (keepS E p) 8 == 1) ((count (keepS E p) : Int) + k) (l[k]) = 0) ∧ 20 + G (keepS E p) 9 + sumC l ≤ G (keepS E p) 11 := by
  obtain ⟨k1, k2, k3, k4, k5⟩ := keepS_facts hp hE hv
  have hc : count (keepS E p) = count E := by unfold count; rw [k5 9 (by omega) (by omega)]
  refine ⟨keepS_page hp hE, k1, fun k hk => ?_, ?_⟩
  · rw [k5 8 (by omega) (by omega), hc]; exact ha k hk
  · rw [k5 9 (by omega) (by omega), k5 11 (by omega) (by omega)]; exact hr
theorem keep_fold : ∀ i : Nat, i ≤ l.length → foldP (keepS E p) (l.take i) = keepS (foldP E (l.take i)) p := by
  obtain ⟨c1, c2, c3, c4⟩ := keep_pre hp hE hv ha hr hlen
  intro i
  induction i with
  | zero => intro _; rfl
  | succ i ih =>
    intro hi
    have r1 := room_at hE hv ha hr hlen (i := i) (by omega)
    have r2 := room_at c1 c2 c3 c4 hlen (i := i) (by omega)
    rw [fold_step c1 c2 c3 c4 hlen (i := i) (by omega), fold_step hE hv ha hr hlen (i := i) (by omega)]
    have I := ih (by omega)
    rw [I] at r2 ⊢
    exact keep_put hp r1.page r1 r2
end

theorem comp_l1 {l : List Pr} {C : List Int} (hp : PageOK C) (hv : validB C = true) (ha : ∀ (k : Nat) (hk : k < l.length), allowedS (G C 8 == 1) ((count C : Int) + k) (l[k]) = 0) (hr : 20 + G C 9 + sumC l ≤ G C 11) (hlen : l.length ≤ 1000) (z : List Int) : ∀ (m n N i : Nat), i + m = l.length → m < n → m_ticketlineref16_Compact_l1 N n i z l (foldP C (l.take i)) = some (foldP C l) := by
  intro m
  induction m with
  | zero =>
    intro n N i hm hn
    obtain ⟨n, rfl⟩ : ∃ q, n = q + 1 := ⟨n - 1, by omega⟩
    simp only [m_ticketlineref16_Compact_l1, m_ticketlineref16_Compact_l1_b, show ¬ (i : Int) < (l.length : Int) by omega, decide_false, Bool.false_eq_true, if_false]
    rw [List.take_of_length_le (by omega)]
  | succ m ih =>
    intro n N i hm hn
    obtain ⟨n, rfl⟩ : ∃ q, n = q + 1 := ⟨n - 1, by omega⟩
    have hi : i < l.length := by omega
    have w2 : IntKind.i64.wrap ((i : Int) + 1) = ((i + 1 : Nat) : Int) := by rw [wI (by omega) (by omega)]; omega
    have R := room_at hp hv ha hr hlen (i := i) hi
    have P := ref_Put' R
    have S := fold_step hp hv ha hr hlen (i := i) hi
    have I := ih n N (i + 1) (by omega) (by omega)
    have P' : m_ticketlineref14_Put (foldP C (l.take i)) ((l[i]).1, ((l[i]).2.1, ())) = some (foldP C (l.take (i + 1))) := by rw [S]; exact P
    simp only [m_ticketlineref16_Compact_l1, m_ticketlineref16_Compact_l1_b, show (i : Int) < (l.length : Int) by omega, decide_true, if_true, Int.natCast_nonneg, rd_GP, GP_get hi, P', Option.bind_some, w2, I]
theorem comp_l0 {l : List Pr} {r0 C : List Int} (hC : PageOK C) (h0 : PageOK r0) (hCz : ∀ j : Nat, 20 ≤ j → j < 128 → G C j = 0) (hCr : ∀ j : Nat, j < 20 → G C j = G r0 j) (hv : validB C = true) (ha : ∀ (k : Nat) (hk : k < l.length), allowedS (G C 8 == 1) ((count C : Int) + k) (l[k]) = 0) (hr : 20 + G C 9 + sumC l ≤ G C 11) (hlen : l.length ≤ 1000) (z : List Int) : ∀ (m n N i : Nat) (r : List Int), 10000 < N → i + m = 128 → m < n → 20 ≤ i → r.length = 128 → (∀ j : Nat, j < 128 → G r j = if j < i then G C j else G r0 j) →
    m_ticketlineref16_Compact_l0 N n i z l r = some (foldP C l) := by
  intro m
  induction m with
  | zero =>
    intro n N i r hN hm hn hi hl hg
    obtain ⟨n, rfl⟩ : ∃ q, n = q + 1 := ⟨n - 1, by omega⟩
    have e : r = C := list_ext_G (by rw [hl, hC.1]) fun j hj => by rw [hg j (by omega), if_pos (by omega)]
    have := comp_l1 hC hv ha hr hlen z l.length N N 0 (by omega) (by omega)
    simp only [m_ticketlineref16_Compact_l0, m_ticketlineref16_Compact_l0_b, show ¬ (i : Int) < 128 by omega, decide_false, Bool.false_eq_true, if_false, e]
    exact this
  | succ m ih =>
    intro n N i r hN hm hn hi hl hg
    obtain ⟨n, rfl⟩ : ∃ q, n = q + 1 := ⟨n - 1, by omega⟩
    have w2 : IntKind.i64.wrap ((i : Int) + 1) = ((i + 1 : Nat) : Int) := by rw [wI (by omega) (by omega)]; omega
    have I := ih n N (i + 1) (r.set i 0) hN (by omega) (by omega) (by omega) (by rw [List.length_set, hl]) fun j hj => by
      rw [G_set (by omega) _ (by omega), hg j hj]
      by_cases e : j = i
      · subst e; rw [if_pos rfl, if_pos (by omega), hCz _ (by omega) (by omega)]
      · rw [if_neg (by omega)]
        by_cases c : j < i
        · rw [if_pos c, if_pos (by omega)]
        · rw [if_neg c, if_neg (by omega)]
    simp only [m_ticketlineref16_Compact_l0, m_ticketlineref16_Compact_l0_b, show (i : Int) < 128 by omega, decide_true, if_true, Int.natCast_nonneg, w2, Int.toNat_natCast, I]
theorem ref16_Compact {p : List Int} (hp : PageOK p) (hs : srtB p = true) (hlh : ¬ (highS p ≠ eB ∧ strLt (lowS p) (highS p) = false)) : m_ticketlineref16_Compact p = some (keepS (ofS (G p 8 - 1) (lowS p) (highS p) (G p 10) (pairsS p)) p) := by
  have F := sorted_fit hp hs
  obtain ⟨hsm, hx, hsum⟩ := srt_small hp hs
  have hv := (srtB_spec hs).1
  have hh := head_spec (valid_head hv)
  have h10 := hp.2.G 10
  obtain ⟨z1, z2⟩ := lowS_size hp
  have h5 : highS p = eB ∨ strLt (lowS p) (highS p) = true := by
    by_cases e : highS p = eB
    · exact .inl e
    · right
      cases h : strLt (lowS p) (highS p) with
      | true => rfl
      | false => exact absurd ⟨e, h⟩ hlh
  have hm : makeE (G p 8 - 1) (lowS p) (highS p) (G p 10) = 0 := makeE_zero.2 ⟨by omega, by omega, z1, z2, h5, by omega, by omega⟩
  obtain ⟨p1, p2, p3, p4⟩ := of_pre hm F.err hsum F.small
  obtain ⟨⟨e1, e2, e3, e4⟩, e5, e6, e7, e8⟩ := emptyP_facts (level := G p 8 - 1) (low := lowS p) (high := highS p) (next := G p 10) (by omega) (by omega) z1 z2 (by omega) (by omega)
  have gE := G_emptyP (level := G p 8 - 1) (low := lowS p) (high := highS p) (next := G p 10) (by omega) (by omega) z1 z2 (by omega) (by omega)
  have f12 : fenceS p 12 = some (lowS p) := fence_some hh.2.2.2.2.2.2.1
  have f16 : fenceS p 16 = some (highS p) := fence_some hh.2.2.2.2.2.2.2
  have hhE := head_spec (valid_head p2)
  have g12 : fenceS (emptyP (G p 8 - 1) (lowS p) (highS p) (G p 10)) 12 = some (lowS p) := (fence_some hhE.2.2.2.2.2.2.1).trans (congrArg some e5)
  have g16 : fenceS (emptyP (G p 8 - 1) (lowS p) (highS p) (G p 10)) 16 = some (highS p) := (fence_some hhE.2.2.2.2.2.2.2).trans (congrArg some e6)
  obtain ⟨c1, c2, c3, c4⟩ := keep_pre hp p1 p2 p3 p4 hsm.1
  have K := keep_fold hp p1 p2 p3 p4 hsm.1 (pairsS p).length (Nat.le_refl _)
  rw [List.take_length] at K
  have hbase : PageOK ((p.set 9 0).set 11 128) := (hp.set 9 (by omega) (by omega)).set 11 (by omega) (by omega)
  have gb : ∀ j : Int, 0 ≤ j → G ((p.set 9 0).set 11 128) j = if j = 11 then 128 else if j = 9 then 0 else G p j := fun j hj => by
    rw [G_set (by rw [List.length_set, hp.1]; omega) _ hj, G_set (by rw [hp.1]; omega) _ hj]; rfl
  unfold m_ticketlineref16_Compact m_ticketlineref16_Compact_a
  rw [ref_Pairs hp hv]
  simp only [Option.bind_some]
  have gk := G_keepS hp p1
  have L := comp_l0 (r0 := (p.set 9 0).set 11 128) c1 hbase (fun j h1 h2 => by rw [gk _ (by omega), if_neg (by omega), gE _ (by omega), if_neg (by omega), G_emptyTail z1 z2 _ (by omega)]) (fun j h1 => by
    rw [gk _ (by omega), gb _ (by omega)]
    by_cases d1 : (j : Int) < 8
    · rw [if_pos d1, if_neg (by omega), if_neg (by omega)]
    rw [if_neg d1]
    by_cases d2 : (j : Int) = 11
    · rw [if_pos d2, d2, e4]
    by_cases d3 : (j : Int) = 9
    · rw [if_neg d2, if_pos d3, d3, e3]
    rw [if_neg d2, if_neg d3]
    by_cases d4 : (j : Int) = 8
    · rw [d4, e7]; omega
    by_cases d5 : (j : Int) = 10
    · rw [d5, e8]
    by_cases d6 : (j : Int) < 16
    · exact fence_unique p1 hp (a := 12) (by omega) (by omega) g12 f12 _ (by omega) (by omega)
    · exact fence_unique p1 hp (a := 16) (by omega) (by omega) g16 f16 _ (by omega) (by omega)) c2 c3 c4 hsm.1 (List.replicate 128 0) 108 FUEL FUEL 20 ((p.set 9 0).set 11 128) (by have := FUEL_big; omega) (by omega) (by have := FUEL_big; omega) (by omega) hbase.1 (fun j hj => by
      by_cases c : j < 20
      · rw [if_pos c]
        rw [gk _ (by omega), gb _ (by omega)]
        by_cases d1 : (j : Int) < 8
        · rw [if_pos d1, if_neg (by omega), if_neg (by omega)]
        rw [if_neg d1]
        by_cases d2 : (j : Int) = 11
        · rw [if_pos d2, d2, e4]
        by_cases d3 : (j : Int) = 9
        · rw [if_neg d2, if_pos d3, d3, e3]
        rw [if_neg d2, if_neg d3]
        by_cases d4 : (j : Int) = 8
        · rw [d4, e7]; omega
        by_cases d5 : (j : Int) = 10
        · rw [d5, e8]
        by_cases d6 : (j : Int) < 16
        · exact (fence_unique p1 hp (a := 12) (by omega) (by omega) g12 f12 _ (by omega) (by omega)).symm
        · exact (fence_unique p1 hp (a := 16) (by omega) (by omega) g16 f16 _ (by omega) (by omega)).symm
      · rw [if_neg c])
  rw [K] at L
  exact L
end Go.Ev.L
