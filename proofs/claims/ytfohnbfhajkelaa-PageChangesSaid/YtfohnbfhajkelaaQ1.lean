/- Law 16: pages by their parts. -/
import Derived.Test.YtfohnbfhajkelaaO8
import Derived.Test.YtfohnbfhajkelaaM16
set_option linter.unusedVariables false
set_option linter.unusedSimpArgs false
set_option linter.unusedSectionVars false
set_option maxRecDepth 10000
namespace Go.Ev.L
open Go Go.Ev Go.Ev.M

theorem w8_inj {x y : Int} (hx : 0 ≤ x ∧ x < 18446744073709551616) (hy : 0 ≤ y ∧ y < 18446744073709551616) (h : w8 x = w8 y) : x = y := by
  simp only [w8, List.cons.injEq, and_true] at h
  omega
theorem b8_inj : ∀ {l m : List Int}, U64 l → U64 m → l.length = m.length → b8 l = b8 m → l = m := by
  intro l
  induction l with
  | nil =>
    intro m _ _ hl _
    cases m with
    | nil => rfl
    | cons y r => simp at hl
  | cons x r ih =>
    intro m h1 h2 hl h
    cases m with
    | nil => simp at hl
    | cons y t =>
      have e : w8 x ++ b8 r = w8 y ++ b8 t := h
      obtain ⟨e1, e2⟩ := List.append_inj e rfl
      rw [w8_inj (h1 x (List.mem_cons_self ..)) (h2 y (List.mem_cons_self ..)) e1, ih (fun z hz => h1 z (List.mem_cons_of_mem _ hz)) (fun z hz => h2 z (List.mem_cons_of_mem _ hz)) (by simpa using hl) e2]
theorem b8_range : ∀ (l : List Int) (x : Int), x ∈ b8 l → 0 ≤ x ∧ x < 256 := by
  intro l x hx
  unfold b8 at hx
  rw [List.mem_flatMap] at hx
  obtain ⟨w, _, hw⟩ := hx
  simp only [w8, List.mem_cons, List.not_mem_nil, or_false] at hw
  omega
theorem U_bytes {l : List Int} {n : Int} {s : ByteArray} (h : U l n = some s) {j : Nat} (hj : j < (b8 l).length) : (b8 l)[j] = B s j := by
  unfold U at h
  split at h
  · rename_i hz
    cases h
    have hB : B (strOf ((b8 l).take n.toNat)) j = ((((b8 l).take n.toNat).map fun n => UInt8.ofNat n.toNat).getD j 0).toNat := rfl
    rw [hB, List.getD_eq_getElem?_getD, List.getElem?_map, List.getElem?_take]
    by_cases c : j < n.toNat
    · rw [if_pos c, List.getElem?_eq_getElem hj]
      have hr := b8_range l _ (List.getElem_mem hj)
      simp only [Option.map_some, Option.getD_some]
      rw [UInt8.toNat_ofNat']
      omega
    · rw [if_neg c]
      unfold zeroFrom at hz
      rw [List.all_eq_true] at hz
      have hm : (b8 l)[j] ∈ (b8 l).drop n.toNat := by
        have e : ((b8 l).drop n.toNat)[j - n.toNat]'(by rw [List.length_drop]; omega) = (b8 l)[j] := by
          rw [List.getElem_drop]; congr 1; omega
        rw [← e]; exact List.getElem_mem _
      have := hz _ hm
      simpa using this
  · cases h
theorem U_unique {l m : List Int} {n n' : Int} {s : ByteArray} (h : U l n = some s) (h' : U m n' = some s) (hl : l.length = m.length) (h1 : U64 l) (h2 : U64 m) : l = m := by
  refine b8_inj h1 h2 hl (List.ext_getElem (by rw [b8_length, b8_length, hl]) fun j k1 k2 => ?_)
  rw [U_bytes h, U_bytes h']
theorem U_len {l : List Int} {n : Int} {s : ByteArray} (h : U l n = some s) (h0 : 0 ≤ n) (hn : n ≤ 8 * l.length) : (s.size : Int) = n := by
  unfold U at h
  split at h
  · cases h; rw [strOf_size, List.length_take, b8_length]; omega
  · cases h
theorem comp_l1 {l : List Pr} {C : List Int} (hp : PageOK C) (hv : validB C = true) (ha : ∀ (k : Nat) (hk : k < l.length), allowedS (G C 8 == 1) ((count C : Int) + k) (l[k]) = 0) (hr : 20 + G C 9 + sumC l ≤ G C 11) (hlen : l.length ≤ 1000) (z : List Int) : ∀ (m n N i : Nat), i + m = l.length → m < n → m_ticketlineref16_Compact_l1 N n i z l (foldP C (l.take i)) = some (foldP C l) := by
  intro m
  induction m with
  | zero =>
    intro n N i hm hn
    obtain ⟨n, rfl⟩ : ∃ q, n = q + 1 := ⟨n - 1, by omega⟩
    simp only [m_ticketlineref16_Compact_l1, m_ticketlineref16_Compact_l1_b, show ¬ (i : Int) < (l.length : Int) by omega, decide_false, Bool.false_eq_true, if_false]
    rw [List.take_of_length_le (by omega)]
  | succ m ih =>
    intro n N i hm hn
    obtain ⟨n, rfl⟩ : ∃ q, n = q + 1 := ⟨n - 1, by omega⟩
    have hi : i < l.length := by omega
    have w2 : IntKind.i64.wrap ((i : Int) + 1) = ((i + 1 : Nat) : Int) := by rw [wI (by omega) (by omega)]; omega
    have R := room_at hp hv ha hr hlen (i := i) hi
    have P := ref_Put' R
    have S := fold_step hp hv ha hr hlen (i := i) hi
    have I := ih n N (i + 1) (by omega) (by omega)
    have P' : m_ticketlineref14_Put (foldP C (l.take i)) ((l[i]).1, ((l[i]).2.1, ())) = some (foldP C (l.take (i + 1))) := by rw [S]; exact P
    simp only [m_ticketlineref16_Compact_l1, m_ticketlineref16_Compact_l1_b, show (i : Int) < (l.length : Int) by omega, decide_true, if_true, Int.natCast_nonneg, rd_GP, GP_get hi, P', Option.bind_some, w2, I]
theorem comp_l0 {l : List Pr} {r0 C : List Int} (hC : PageOK C) (h0 : PageOK r0) (hCz : ∀ j : Nat, 20 ≤ j → j < 128 → G C j = 0) (hCr : ∀ j : Nat, j < 20 → G C j = G r0 j) (hv : validB C = true) (ha : ∀ (k : Nat) (hk : k < l.length), allowedS (G C 8 == 1) ((count C : Int) + k) (l[k]) = 0) (hr : 20 + G C 9 + sumC l ≤ G C 11) (hlen : l.length ≤ 1000) (z : List Int) : ∀ (m n N i : Nat) (r : List Int), 10000 < N → i + m = 128 → m < n → 20 ≤ i → r.length = 128 → (∀ j : Nat, j < 128 → G r j = if j < i then G C j else G r0 j) →
    m_ticketlineref16_Compact_l0 N n i z l r = some (foldP C l) := by
  intro m
  induction m with
  | zero =>
    intro n N i r hN hm hn hi hl hg
    obtain ⟨n, rfl⟩ : ∃ q, n = q + 1 := ⟨n - 1, by omega⟩
    have e : r = C := list_ext_G (by rw [hl, hC.1]) fun j hj => by rw [hg j (by omega), if_pos (by omega)]
    have := comp_l1 hC hv ha hr hlen z l.length N N 0 (by omega) (by omega)
    simp only [m_ticketlineref16_Compact_l0, m_ticketlineref16_Compact_l0_b, show ¬ (i : Int) < 128 by omega, decide_false, Bool.false_eq_true, if_false, e]
    exact this
  | succ m ih =>
    intro n N i r hN hm hn hi hl hg
    obtain ⟨n, rfl⟩ : ∃ q, n = q + 1 := ⟨n - 1, by omega⟩
    have w2 : IntKind.i64.wrap ((i : Int) + 1) = ((i + 1 : Nat) : Int) := by rw [wI (by omega) (by omega)]; omega
    have I := ih n N (i + 1) (r.set i 0) hN (by omega) (by omega) (by omega) (by rw [List.length_set, hl]) fun j hj => by
      rw [G_set (by omega) _ (by omega), hg j hj]
      by_cases e : j = i
      · subst e; rw [if_pos rfl, if_pos (by omega), hCz _ (by omega) (by omega)]
      · rw [if_neg (by omega)]
        by_cases c : j < i
        · rw [if_pos c, if_pos (by omega)]
        · rw [if_neg c, if_neg (by omega)]
    simp only [m_ticketlineref16_Compact_l0, m_ticketlineref16_Compact_l0_b, show (i : Int) < 128 by omega, decide_true, if_true, Int.natCast_nonneg, w2, Int.toNat_natCast, I]

def mk (f : Int → Int) : List Int := (List.range 128).map fun j => f ((j : Nat) : Int)
theorem mk_length (f : Int → Int) : (mk f).length = 128 := by simp [mk]
theorem G_mk (f : Int → Int) {j : Int} (h0 : 0 ≤ j) (h1 : j < 128) : G (mk f) j = f j := by
  obtain ⟨i, rfl⟩ : ∃ i : Nat, j = (i : Int) := ⟨j.toNat, by omega⟩
  rw [G_get (by rw [mk_length]; omega)]
  simp [mk]
theorem eq_mk {q : List Int} (hl : q.length = 128) {f : Int → Int} (h : ∀ j : Int, 0 ≤ j → j < 128 → G q j = f j) : q = mk f := by
  refine list_ext_G (by rw [hl, mk_length]) fun j hj => ?_
  rw [h j (by omega) (by omega), G_mk f (by omega) (by omega)]
theorem mk_page {f : Int → Int} (h : ∀ j : Int, 0 ≤ j → j < 128 → 0 ≤ f j ∧ f j < 18446744073709551616) : PageOK (mk f) := by
  refine ⟨mk_length f, fun x hx => ?_⟩
  obtain ⟨j, hj, rfl⟩ := List.mem_map.1 hx
  rw [List.mem_range] at hj
  exact h j (by omega) (by omega)

/-- the slot of a page with a record at a place -/
structure SlotIs (q : List Int) (i : Int) (x : Pr) (t : Int) : Prop where
  word : sw q i = wordS t x.1.size x.2.1.size
  low : G q 11 ≤ t
  high : t + (recS x).length ≤ 128
  recs : ∀ j, t ≤ j → j < t + (recS x).length → G q j = G (recS x) (j - t)

theorem rec_len (x : Pr) : ((recS x).length : Int) = W x.1.size + W x.2.1.size := by
  have W1 := W_nonneg (x.1.size : Int)
  have W2 := W_nonneg (x.2.1.size : Int)
  unfold recS; rw [List.length_append, packS_length, packS_length]; omega
theorem slot_is {p : List Int} (hp : PageOK p) (hv : validB p = true) {i : Nat} (hi : i < count p) : SlotIs p i (pairOf p i) (atS (sw p i)) ∧ endS (sw p i) = atS (sw p i) + (recS (pairOf p i)).length ∧ midS (sw p i) = atS (sw p i) + (packS (pairOf p i).1).length ∧ keyS (sw p i) = (pairOf p i).1.size ∧ valS (sw p i) = (pairOf p i).2.1.size := by
  obtain ⟨hs, ⟨k, hk⟩, ⟨v, hvl⟩, _⟩ := valid_good hp hv hi
  have hpo : pairOf p i = (k, (v, ())) := by unfold pairOf; rw [hk, hvl]; rfl
  rw [hpo]
  have W1 := W_nonneg (keyS (sw p i))
  have W2 := W_nonneg (valS (sw p i))
  have L1 := W_le hs.key0
  have L2 := W_le hs.val0
  have hend : endS (sw p i) = midS (sw p i) + W (valS (sw p i)) := rfl
  have hmid : midS (sw p i) = atS (sw p i) + W (keyS (sw p i)) := rfl
  have e1 := hs.end1
  have a0 := hs.at0
  have wl1 : (win p (atS (sw p i)) (W (keyS (sw p i)))).length = (W (keyS (sw p i))).toNat := win_len a0 W1 (by rw [hp.1]; omega)
  have wl2 : (win p (midS (sw p i)) (W (valS (sw p i)))).length = (W (valS (sw p i))).toNat := win_len (by omega) W2 (by rw [hp.1]; omega)
  have ks : (k.size : Int) = keyS (sw p i) := U_len hk hs.key0 (by rw [wl1]; omega)
  have vs : (v.size : Int) = valS (sw p i) := U_len hvl hs.val0 (by rw [wl2]; omega)
  have ek : win p (atS (sw p i)) (W (keyS (sw p i))) = packS k := U_unique hk (U_pack k) (by rw [wl1, packS_length, ks]) (hp.2.win _ _) (packS_u64 k)
  have ev : win p (midS (sw p i)) (W (valS (sw p i))) = packS v := U_unique hvl (U_pack v) (by rw [wl2, packS_length, vs]) (hp.2.win _ _) (packS_u64 v)
  have lk : ((packS k).length : Int) = W (keyS (sw p i)) := by rw [packS_length, ks]; omega
  have lv : ((packS v).length : Int) = W (valS (sw p i)) := by rw [packS_length, vs]; omega
  have lr : ((recS (k, (v, ()))).length : Int) = W (keyS (sw p i)) + W (valS (sw p i)) := by rw [rec_len]; dsimp only; rw [ks, vs]
  refine ⟨⟨?_, hs.low, by rw [lr]; omega, fun j j0 j1 => ?_⟩, by rw [lr]; omega, by dsimp only; rw [lk]; exact hmid, ks.symm, vs.symm⟩
  · dsimp only
    rw [ks, vs]
    have hw := hp.2.G (20 + i)
    have : sw p i = G p (20 + i) := rfl
    unfold wordS atS keyS valS; omega
  · rw [lr] at j1
    unfold recS
    dsimp only
    rw [G_append _ (by omega), lk]
    by_cases c : j - atS (sw p i) < W (keyS (sw p i))
    · rw [if_pos c, ← ek, G_win a0 _ (by omega) c]; congr 1; omega
    · rw [if_neg c, ← ev, G_win (by omega) _ (by omega) (by omega)]; congr 1; omega

/-- the records of a valid page lie apart -/
theorem slots_apart {p : List Int} (hp : PageOK p) (hv : validB p = true) {i j : Nat} (hij : i < j) (hj : j < count p) : endS (sw p j) ≤ atS (sw p i) ∨ endS (sw p i) ≤ atS (sw p j) := by
  have h := valid_slot hv hj
  simp only [slotB, Bool.and_eq_true, Bool.not_eq_true'] at h
  by_cases c : overB p j i = true
  · have := (anyO_iff (p := p) (i := j) j 0).2 ⟨i, by omega, by omega, c⟩
    rw [h.2] at this; cases this
  · have c : overB p j i = false := by simpa using c
    simp only [overB, Bool.and_eq_false_iff, decide_eq_false_iff_not] at c
    omega

theorem rec_pos {leaf : Bool} {i : Int} {x : Pr} (h : allowedS leaf i x = 0) : 1 ≤ ((recS x).length : Int) := by
  obtain ⟨a1, a2, a3, a4⟩ := allowed_spec h
  have L1 := W_le (n := (x.1.size : Int)) (by omega)
  have L2 := W_le (n := (x.2.1.size : Int)) (by omega)
  rw [rec_len]
  by_cases ce : x.1 = eB
  · have e8 : leaf = false := by
      cases leaf with
      | false => rfl
      | true => exact absurd ⟨ce, .inl rfl⟩ a1
    have := (childV_spec (a2 e8)).1
    omega
  · have := size_pos ce
    omega

/-- a page whose slots are these is valid, and has just them -/
theorem assemble {q : List Int} (hq : PageOK q) (hh : headB q = true) {l : List Pr} (hn : G q 9 = l.length) (T : Nat → Int) (hs : ∀ (i : Nat) (hi : i < l.length), SlotIs q i (l[i]) (T i))
    (hd : ∀ (i j : Nat) (hij : i < j) (hj : j < l.length), T j + (recS l[j]).length ≤ T i ∨ T i + (recS (l[i]'(by omega))).length ≤ T j) (ha : ∀ (i : Nat) (hi : i < l.length), allowedS (G q 8 == 1) i (l[i]) = 0) : validB q = true ∧ pairsS q = l := by
  have hc : count q = l.length := by unfold count; rw [hn]; omega
  have h11 := (head_spec hh).2.2.2.2.1
  have key : ∀ (i : Nat) (hi : i < l.length), atS (sw q i) = T i ∧ keyS (sw q i) = (l[i]).1.size ∧ valS (sw q i) = (l[i]).2.1.size ∧ endS (sw q i) = T i + (recS l[i]).length ∧ midS (sw q i) = T i + (packS (l[i]).1).length ∧ keyOf q i = some (l[i]).1 ∧ valOf q i = some (l[i]).2.1 := by
    intro i hi
    obtain ⟨a1, a2, a3, a4⟩ := allowed_spec (ha i hi)
    have s := hs i hi
    have := s.low
    exact written_slot hq (by omega) s.high a3 a4 s.word s.recs
  have slot : ∀ (i : Nat) (hi : i < l.length), slotB q i = true := by
    intro i hi
    obtain ⟨w1, w2, w3, w4, w5, w6, w7⟩ := key i hi
    obtain ⟨a1, a2, a3, a4⟩ := allowed_spec (ha i hi)
    have s := hs i hi
    have rp := rec_pos (ha i hi)
    have slow := s.low
    have shigh := s.high
    have hsz : sizedB q i = true := by
      simp only [sizedB, Bool.and_eq_true, decide_eq_true_eq, Bool.or_eq_true, Bool.not_eq_true', beq_eq_false_iff_ne, ne_eq]
      rw [w1, w2, w3, w4]
      refine ⟨⟨⟨⟨⟨by omega, by omega⟩, ?_⟩, ?_⟩, by omega⟩, by omega⟩
      · by_cases ce : (l[i]).1 = eB
        · right
          refine ⟨fun h8 => a1 ⟨ce, .inl (by simpa using h8)⟩, ?_⟩
          rcases Nat.eq_zero_or_pos i with h | h
          · omega
          · exact absurd ⟨ce, .inr (by omega)⟩ a1
        · left; have := size_pos ce; omega
      · by_cases c8 : G q 8 = 1
        · have : (G q 8 == 1) = true := by simpa using c8
          rw [this, if_pos rfl]; simp; omega
        · have e8 : (G q 8 == 1) = false := by simpa using c8
          have := (childV_spec (a2 e8)).1
          rw [e8]; simp; omega
    have htx : textB q i = true := by unfold textB; rw [w6, w7]; rfl
    have hch : childB q i = true := by
      unfold childB
      by_cases c8 : G q 8 > 1
      · have e8 : (G q 8 == 1) = false := by simp; omega
        obtain ⟨v1, v2, v3, v4⟩ := childV_spec (a2 e8)
        have hps : packS (l[i]).2.1 = [numV (l[i]).2.1] := by rw [v4, pack_w8 (by omega) (by omega), ← v4]
        have ll : ((recS l[i]).length : Int) = (packS (l[i]).1).length + 1 := by unfold recS; rw [List.length_append, hps]; simp
        have gm : G q (midS (sw q i)) = numV (l[i]).2.1 := by
          rw [w5, s.recs _ (by omega) (by omega)]
          unfold recS
          rw [G_append _ (by omega), if_neg (by omega), hps]
          have : T i + ((packS (l[i]).1).length : Int) - T i - ((packS (l[i]).1).length : Int) = 0 := by omega
          rw [this]; rfl
        rw [gm]; simp [v2, v3]
      · simp [c8]
    have han : anyO q i 0 i = false := by
      rw [Bool.eq_false_iff]
      intro h
      obtain ⟨j, k1, k2, k3⟩ := (anyO_iff _ _).1 h
      have hj : j < i := by omega
      obtain ⟨y1, _, _, y4, _⟩ := key j (by omega)
      simp only [overB, Bool.and_eq_true, decide_eq_true_eq] at k3
      rw [w1, w4, y1, y4] at k3
      rcases hd j i hj hi with h | h <;> omega
    simp only [slotB, goodB, hsz, htx, hch, han, Bool.and_self, Bool.not_false]
  refine ⟨?_, ?_⟩
  · unfold validB
    rw [hh, hc]
    have : validFrom q 0 l.length = true := by
      rw [validFrom_spec]
      intro j k1 k2
      exact slot j (by omega)
    rw [this]; rfl
  · unfold pairsS pairsTo
    rw [hc]
    refine List.ext_getElem (by simp) fun i h1 h2 => ?_
    rw [List.getElem_map, List.getElem_range]
    obtain ⟨w1, w2, w3, w4, w5, w6, w7⟩ := key i h2
    unfold pairOf
    rw [w6, w7]
    rfl

/-- the head of a page depends on the words 8 to 19 alone -/
theorem head_of {p q : List Int} (hp : PageOK p) (hq : PageOK q) (hh : headB p = true) (h : ∀ j, 8 ≤ j → j < 20 → j ≠ 9 → j ≠ 11 → G q j = G p j) (h9 : G q 9 ≤ 108) (h11 : 20 + G q 9 ≤ G q 11) (h11' : G q 11 ≤ 128) : headB q = true ∧ lowS q = lowS p ∧ highS q = highS p := by
  have hf : ∀ a : Int, a = 12 ∨ a = 16 → fenceS q a = fenceS p a := by
    intro a ha
    unfold fenceS
    rw [h a (by omega) (by omega) (by omega) (by omega), win_eq hp.1 hq.1 (a := a + 1) (n := 3) (by omega) (by omega) (by omega) fun j k1 k2 => h j (by omega) (by omega) (by omega) (by omega)]
  have e := head_spec hh
  refine ⟨?_, by unfold lowS; rw [hf 12 (.inl rfl)], by unfold highS; rw [hf 16 (.inr rfl)]⟩
  unfold headB
  rw [h 8 (by omega) (by omega) (by omega) (by omega), h 10 (by omega) (by omega) (by omega) (by omega), hf 12 (.inl rfl), hf 16 (.inr rfl)]
  simp [e, h9, h11, h11']
end Go.Ev.L
