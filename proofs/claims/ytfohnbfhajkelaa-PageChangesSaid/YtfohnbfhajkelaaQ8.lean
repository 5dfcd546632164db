/- Law 16: a leaf filled and emptied. -/
import Derived.Test.YtfohnbfhajkelaaQ7
set_option linter.unusedVariables false
set_option linter.unusedSimpArgs false
set_option linter.unusedSectionVars false
set_option maxRecDepth 10000
namespace Go.Ev.L
open Go Go.Ev Go.Ev.M

def kk (key i : Nat) : ByteArray := strOf [97 + (i : Int) / 10, 48 + (i : Int) % 10] ++ strOf (List.replicate (key - 2) 0)
theorem kk_data (key i : Nat) : (kk key i).data.toList = UInt8.ofNat (97 + (i : Int) / 10).toNat :: UInt8.ofNat (48 + (i : Int) % 10).toNat :: List.replicate (key - 2) (UInt8.ofNat 0) := by
  unfold kk
  rw [ByteArray.data_append]
  simp [strOf]
theorem kk_size {key : Nat} (h : 2 ≤ key) (i : Nat) : (kk key i).size = key := by
  have : (kk key i).size = (kk key i).data.toList.length := by simp
  rw [this, kk_data]; simp; omega
theorem kk_lt {key i j : Nat} (hij : i < j) (hj : j < 100) : strLt (kk key i) (kk key j) = true := by
  have tl : ∀ x : ByteArray, x.toList = x.data.toList := fun x => ByteArray.toList_eq ..
  show bl (kk key i).toList (kk key j).toList = true
  rw [tl, tl, kk_data, kk_data, bl_cons, bl_cons]
  have a1 : (UInt8.ofNat (97 + (i : Int) / 10).toNat).toNat = (97 + i / 10) := by rw [UInt8.toNat_ofNat']; omega
  have a2 : (UInt8.ofNat (97 + (j : Int) / 10).toNat).toNat = (97 + j / 10) := by rw [UInt8.toNat_ofNat']; omega
  have b1 : (UInt8.ofNat (48 + (i : Int) % 10).toNat).toNat = (48 + i % 10) := by rw [UInt8.toNat_ofNat']; omega
  have b2 : (UInt8.ofNat (48 + (j : Int) % 10).toNat).toNat = (48 + j % 10) := by rw [UInt8.toNat_ofNat']; omega
  by_cases c : i / 10 < j / 10
  · have : UInt8.ofNat (97 + (i : Int) / 10).toNat < UInt8.ofNat (97 + (j : Int) / 10).toNat := by rw [UInt8.lt_iff_toNat_lt]; omega
    simp [this]
  · have e : UInt8.ofNat (97 + (i : Int) / 10).toNat = UInt8.ofNat (97 + (j : Int) / 10).toNat := UInt8.toNat_inj.1 (by omega)
    have : UInt8.ofNat (48 + (i : Int) % 10).toNat < UInt8.ofNat (48 + (j : Int) % 10).toNat := by rw [UInt8.lt_iff_toNat_lt]; omega
    simp [this, e]
def kp (key : Nat) (v : ByteArray) (i : Nat) : Pr := (kk key i, (v, ()))

/-- a leaf with these keys, made of the empty one -/
structure Fl (key : Nat) (v : ByteArray) (ks : List Nat) (p : List Int) : Prop where
  leaf : Leaf p
  pairs : pairsS p = ks.map (kp key v)
  head : ∀ j, 0 ≤ j → j < 20 → j ≠ 9 → j ≠ 11 → G p j = G (emptyS 0 eB eB) j
theorem empty_eq : emptyP 0 eB eB 0 = emptyS 0 eB eB := by
  have hl : (emptyS 0 eB eB).length = 128 := (empty_page (by omega) (by omega) (by decide) (by decide)).1
  refine list_ext_G (by unfold emptyP; rw [List.length_set]) fun j hj => ?_
  rw [G_emptyP (by omega) (by omega) (by decide) (by decide) (by omega) (by omega) _ (by omega)]
  by_cases c : (j : Int) = 10
  · rw [if_pos c, c, G_empty (by decide) (by decide) 10 (by omega) (by omega)]; rfl
  · rw [if_neg c]
theorem fl_empty (key : Nat) (v : ByteArray) : Fl key v [] (emptyS 0 eB eB) := by
  obtain ⟨b, _, _, h8, _⟩ := emptyP_facts (level := 0) (low := eB) (high := eB) (next := 0) (by omega) (by omega) (by decide) (by decide) (by omega) (by omega)
  have hp := b.pairs
  rw [empty_eq] at b h8 hp
  exact ⟨⟨b.page, by unfold srtB; rw [b.valid, hp]; rfl, h8⟩, hp, fun _ _ _ _ _ => rfl⟩
section
theorem erase_map {α β : Type} (f : α → β) : ∀ (l : List α) (m : Nat), (l.map f).eraseIdx m = (l.eraseIdx m).map f
  | [], _ => rfl
  | _ :: _, 0 => rfl
  | a :: l, m + 1 => congrArg (f a :: ·) (erase_map f l m)
variable {key : Nat} (k2 : 2 ≤ key) (k24 : key ≤ 24) {v : ByteArray} (h40 : v.size ≤ 40)
include k2 k24 h40
theorem kp_cost (i : Nat) : costS (kp key v i) = 1 + W key + W v.size := by
  show 1 + W ((kk key i).size : Int) + W (v.size : Int) = _
  rw [kk_size k2]
theorem kp_sum (ks : List Nat) : sumC (ks.map (kp key v)) = ks.length * (1 + W key + W v.size) := by
  induction ks with
  | nil => show (0 : Int) = (0 : Nat) * _; omega
  | cons k ks ih =>
    show costS (kp key v k) + sumC (ks.map (kp key v)) = ((ks.length + 1 : Nat) : Int) * _
    rw [kp_cost k2 k24 h40, ih, Int.natCast_add, Int.add_mul, Int.add_comm]; simp
theorem cost_cases : (1 + W key + W v.size = 2 ∨ 1 + W key + W v.size = 3 ∨ 1 + W key + W v.size = 4 ∨ 1 + W key + W v.size = 5 ∨ 1 + W key + W v.size = 6 ∨ 1 + W key + W v.size = 7 ∨ 1 + W key + W v.size = 8 ∨ 1 + W key + W v.size = 9) := by
  have a := W_le (n := (key : Int)) (by omega)
  have b := W_le (n := (v.size : Int)) (by omega)
  omega
theorem kp_allowed (p : List Int) (h8 : G p 8 = 1) (i : Nat) (j : Int) : allowedS (G p 8 == 1) j (kp key v i) = 0 := by
  have hs := kk_size k2 i
  have e8 : (G p 8 == 1) = true := by simpa using h8
  rw [e8]
  unfold allowedS
  rw [if_neg, if_neg (fun h => by cases h.1), if_neg]
  · show ¬ (24 < (kk key i).size ∨ 40 < v.size); omega
  · rintro ⟨h, _⟩
    have h : kk key i = eB := h
    rw [h] at hs
    have : eB.size = 0 := rfl
    omega
theorem fl_insert {i : Nat} (hi : i < 100) {p : List Int} (F : Fl key v (List.range i) p) : ∃ q e, m_page_Insert p (kk key i) v = some (q, e) ∧
    (if (i + 1 : Int) * (1 + W key + W v.size) > 108 then e = 7 ∧ q = List.replicate 128 0 else e = 0 ∧ Fl key v (List.range (i + 1)) q ∧ G q 9 = i + 1) := by
  obtain ⟨⟨hp, hs, h8⟩, hpr, hh⟩ := F
  obtain ⟨hv, hsr⟩ := srtB_spec hs
  have hsz := kk_size k2 i
  obtain ⟨a1, _, _⟩ := puts_eq hp (x := kp key v i) (show (kk key i).size ≤ 1000 by omega) (show v.size ≤ 1000 by omega)
  have a1 : m_page_Insert p (kk key i) v = some (putR p (kp key v i) true) := a1
  have hlen : (pairsS p).length = i := by rw [hpr]; simp
  have hpos : keyI p (kk key i) = i := by
    unfold keyI
    refine posS_eq (by omega) (fun j hj hji => ?_) (fun h => by omega)
    have : (pairsS p)[j] = kp key v j := by simp [hpr]
    rw [this]; exact kk_lt hji hi
  have his : isI p (kk key i) = false := isS_end (by have : posS (kk key i) (pairsS p) = i := hpos; omega)
  have hE : putE p (kp key v i) true = if (i + 1 : Int) * (1 + W key + W v.size) > 108 then 7 else 0 := by
    have hal := kp_allowed k2 k24 h40 p h8 i
    have hk' : keyI p (kp key v i).1 = i := hpos
    have hi' : isI p (kp key v i).1 = false := his
    unfold putE
    rw [hi', if_neg (by rw [hs]; decide), if_neg (by rw [hal]; decide), if_neg (by simp), hpr, kp_sum k2 k24 h40, kp_cost k2 k24 h40, List.length_range]
    simp only [Bool.false_eq_true, if_false, Int.sub_zero]
    have : (i : Int) * (1 + W key + W v.size) + (1 + W key + W v.size) = ((i : Int) + 1) * (1 + W key + W v.size) := by rw [Int.add_mul, Int.one_mul]
    rw [this]
  refine ⟨(putR p (kp key v i) true).1, (putR p (kp key v i) true).2, a1, ?_⟩
  unfold putR
  rw [hE]
  by_cases c : (i + 1 : Int) * (1 + W key + W v.size) > 108
  · rw [if_pos c, if_pos c, if_neg (by decide)]; exact ⟨rfl, rfl⟩
  · rw [if_neg c, if_neg c, if_pos rfl]
    rw [if_neg c] at hE
    obtain ⟨f1, f2, f3, f4⟩ := put_facts hp hs (x := kp key v i) (show (kk key i).size ≤ 1000 by omega) (show v.size ≤ 1000 by omega) hE
    have hins : insL p (kp key v i) = (List.range (i + 1)).map (kp key v) := by
      have hk' : keyI p (kp key v i).1 = i := hpos
      have hi' : isI p (kp key v i).1 = false := his
      unfold insL
      rw [hk', hi', if_neg (by decide), List.take_of_length_le (by omega), List.drop_of_length_le (by omega), hpr, List.range_succ, List.map_append]
      rfl
    have hcq := count_le f1 f2
    have hlq : (pairsS (putP p (kp key v i))).length = count (putP p (kp key v i)) := pairsTo_length _ _
    rw [f3, hins, List.length_map, List.length_range] at hlq
    refine ⟨rfl, ⟨⟨f1, by unfold srtB; rw [f2, f3, insL_srt hp hs]; rfl, by rw [f4 8 (by omega) (by omega) (by omega) (by omega)]; exact h8⟩, f3.trans hins, fun j h0 h1 h2 h3 => by rw [f4 j h0 h1 h2 h3]; exact hh j h0 h1 h2 h3⟩, by dsimp only; omega⟩
theorem fl_remove {ks : List Nat} {p : List Int} (F : Fl key v ks p) {m k : Nat} (hm : ks[m]? = some k) : ∃ q, m_page_Remove p (kk key k) = some (q, v, 0) ∧ Fl key v (ks.eraseIdx m) q ∧ G q 9 = (ks.length : Int) - 1 := by
  obtain ⟨⟨hp, hs, h8⟩, hpr, hh⟩ := F
  obtain ⟨hv, hsr⟩ := srtB_spec hs
  have hsz := kk_size k2 k
  have hmk := (List.getElem?_eq_some_iff.1 hm).1
  have hlen : (pairsS p).length = ks.length := by rw [hpr]; simp
  have hl : (pairsS p).length = count p := pairsTo_length _ _
  have hge : (pairsS p)[m]'(by omega) = kp key v k := by
    have : (pairsS p)[m]? = some (kp key v k) := by rw [hpr, List.getElem?_map, hm]; rfl
    exact (List.getElem?_eq_some_iff.1 this).2
  obtain ⟨p1, p2⟩ := posS_own hsr (i := m) (by omega)
  rw [hge] at p1 p2
  have hpos : keyI p (kk key k) = m := p1
  have his : isI p (kk key k) = true := p2
  have hkne : kk key k ≠ eB := fun e => by
    rw [e] at hsz
    have : eB.size = 0 := rfl
    omega
  have hE : remE p (kk key k) = 0 := by unfold remE; rw [if_neg (by rw [hs]; decide), if_neg (fun h => hkne h.1), if_neg (by omega), if_neg (by rw [his]; decide)]
  have hpo : pairOf p ((m : Nat) : Int) = kp key v k := by rw [← hge]; simp [pairsS, pairsTo]
  obtain ⟨b1, _⟩ := removes_eq hp (kk key k)
  obtain ⟨f1, f2, f3, f4, f5⟩ := rem_facts hp hs his
  rw [hpos] at f1 f2 f3 f4 f5
  unfold remR at b1
  rw [if_pos hE, hpos, hpo] at b1
  have hcq := count_le f1 f2
  have hlq : (pairsS (takeS p m)).length = count (takeS p m) := pairsTo_length _ _
  rw [f4, List.length_eraseIdx_of_lt (by omega), hlen] at hlq
  refine ⟨_, b1, ⟨⟨f1, f3, by rw [f5 8 (by omega) (by omega) (by omega)]; exact h8⟩, ?_, fun j h0 h1 h2 h3 => by rw [f5 j h0 h1 h2]; exact hh j h0 h1 h2 h3⟩, by omega⟩
  rw [f4, hpr, erase_map]
theorem fl_end {p : List Int} (F : Fl key v [] p) : m_page_Compact p = some (emptyS 0 eB eB, 0) := by
  obtain ⟨⟨hp, hs, h8⟩, hpr, hh⟩ := F
  obtain ⟨hv, hsr⟩ := srtB_spec hs
  have hE : PageOK (emptyS 0 eB eB) := empty_page (by omega) (by omega) (by decide) (by decide)
  have hb : emptyS 0 eB eB = baseS p := eq_mk hE.1 fun j h0 h1 => by
    by_cases d1 : j = 9
    · rw [if_pos d1, d1, G_empty (by decide) (by decide) 9 (by omega) (by omega)]; rfl
    rw [if_neg d1]
    by_cases d2 : j = 11
    · rw [if_pos d2, d2, G_empty (by decide) (by decide) 11 (by omega) (by omega)]; rfl
    rw [if_neg d2]
    by_cases d3 : 20 ≤ j
    · rw [if_pos d3, G_emptyTail (by decide) (by decide) j d3]
    · rw [if_neg d3, hh j h0 (by omega) d1 d2]
  have hc : compS p = emptyS 0 eB eB := by
    unfold compS
    rw [hpr, hb]; rfl
  rw [page_Compact hp, hv, if_pos rfl, hc]

theorem fills_l1 {most : Nat} (hmost : most ≤ 60) (last : Bool) : ∀ (m n N i : Nat) (p : List Int), i + m = most → m < n → Fl key v (if last = true then List.range (most - i) else (List.range most).drop i) p →
    m_ticketlinelaw16_PageFills_l1 N n last v i p ((List.range most).map (kk key)) = some true := by
  have hlen : ((List.range most).map (kk key)).length = most := by simp
  have hget : ∀ j : Nat, j < most → rd .str ((List.range most).map (kk key)) (j : Int) = kk key j := fun j hj => by
    show ((List.range most).map (kk key)).getD (j : Int).toNat eB = _
    rw [Int.toNat_natCast, List.getD_eq_getElem?_getD, List.getElem?_map, List.getElem?_range hj]; rfl
  intro m
  induction m with
  | zero =>
    intro n N i p hm hn F
    obtain ⟨n, rfl⟩ : ∃ q, n = q + 1 := ⟨n - 1, by omega⟩
    have F0 : Fl key v [] p := by
      have : (if last = true then List.range (most - i) else (List.range most).drop i) = [] := by
        split
        · rw [show most - i = 0 by omega]; rfl
        · exact List.drop_eq_nil_of_le (by simp; omega)
      rw [this] at F; exact F
    have hC := fl_end k2 k24 h40 F0
    have hEm := ref_Empty (level := 0) (low := eB) (high := eB) (by omega) (by omega) (by decide) (by decide)
    simp only [m_ticketlinelaw16_PageFills_l1, m_ticketlinelaw16_PageFills_l1_b, hlen, show ¬ (i : Int) < (most : Int) by omega, decide_false, Bool.false_eq_true, if_false, hC, hEm, Option.bind_some, beq_refl_page, if_true, beq_self_eq_true, known16]
  | succ m ih =>
    intro n N i p hm hn F
    obtain ⟨n, rfl⟩ : ∃ q, n = q + 1 := ⟨n - 1, by omega⟩
    have w0 : IntKind.i64.wrap ((most : Int) - 1) = (most : Int) - 1 := wI (by omega) (by omega)
    have w1 : IntKind.i64.wrap ((most : Int) - 1 - i) = ((most - 1 - i : Nat) : Int) := by rw [wI (by omega) (by omega)]; omega
    have w2 : IntKind.i64.wrap ((i : Int) + 1) = ((i + 1 : Nat) : Int) := by rw [wI (by omega) (by omega)]; omega
    have w3 : IntKind.i64.wrap ((most - 1 - i : Nat) : Int) = ((most - 1 - i : Nat) : Int) := wI (by omega) (by omega)
    cases last with
    | true =>
      have F : Fl key v (List.range (most - i)) p := F
      obtain ⟨q, R, F2, h9⟩ := fl_remove k2 k24 h40 F (m := most - 1 - i) (k := most - 1 - i) (List.getElem?_range (by omega))
      have he : (List.range (most - i)).eraseIdx (most - 1 - i) = List.range (most - (i + 1)) := by
        rw [show most - i = (most - 1 - i) + 1 by omega, List.range_succ, List.eraseIdx_append_of_length_le (by simp)]
        simp [show most - (i + 1) = most - 1 - i by omega]
      rw [he] at F2
      have I := ih n N (i + 1) q (by omega) (by omega) F2
      have h9' : G q 9 = ((most - 1 - i : Nat) : Int) := by rw [h9, List.length_range]; omega
      simp only [m_ticketlinelaw16_PageFills_l1, m_ticketlinelaw16_PageFills_l1_b, hlen, show (i : Int) < (most : Int) by omega, decide_true, if_true, Int.natCast_nonneg, w0, w1, show ((most - 1 - i : Nat) : Int) < (most : Int) by omega, hget _ (show most - 1 - i < most by omega), R, Option.bind_some, bne_self_eq_false, Bool.false_eq_true, if_false, strEq_refl, Bool.not_true, rd_G, h9', w3, w2, I]
    | false =>
      have F : Fl key v ((List.range most).drop i) p := F
      obtain ⟨q, R, F2, h9⟩ := fl_remove k2 k24 h40 F (m := 0) (k := i) (by rw [List.getElem?_drop, Nat.add_zero]; exact List.getElem?_range (by omega))
      have he : ((List.range most).drop i).eraseIdx 0 = (List.range most).drop (i + 1) := by
        rw [List.drop_eq_getElem_cons (show i < (List.range most).length by simp; omega)]; rfl
      rw [he] at F2
      have I := ih n N (i + 1) q (by omega) (by omega) F2
      have h9' : G q 9 = ((most - 1 - i : Nat) : Int) := by rw [h9, List.length_drop, List.length_range]; omega
      simp only [m_ticketlinelaw16_PageFills_l1, m_ticketlinelaw16_PageFills_l1_b, hlen, show (i : Int) < (most : Int) by omega, decide_true, if_true, Int.natCast_nonneg, hget _ (show i < most by omega), R, Option.bind_some, bne_self_eq_false, Bool.false_eq_true, if_false, strEq_refl, Bool.not_true, rd_G, h9', w0, w1, w3, w2, I]
theorem fills_l0 {most : Nat} (h1 : (most : Int) * (1 + W key + W v.size) ≤ 108) (h2 : 108 < ((most : Int) + 1) * (1 + W key + W v.size)) (last : Bool) : ∀ (m n N i : Nat) (p : List Int), 1000 < N → i + m = most + 1 → m < n → Fl key v (List.range (min i most)) p →
    m_ticketlinelaw16_PageFills_l0 N n key last v most i p ((List.range (min i most)).map (kk key)) = some true := by
  have hc := cost_cases k2 k24 h40
  have hmost : most ≤ 54 := by rcases hc with h | h | h | h | h | h | h | h <;> rw [h] at h1 <;> omega
  intro m
  induction m with
  | zero =>
    intro n N i p hN hm hn F
    obtain ⟨n, rfl⟩ : ∃ q, n = q + 1 := ⟨n - 1, by omega⟩
    rw [show min i most = most by omega] at F ⊢
    have L1 := fills_l1 k2 k24 h40 (most := most) (by omega) last most N N 0 p (by omega) (by omega) (by cases last <;> simpa using F)
    have L1 : m_ticketlinelaw16_PageFills_l1 N N last v 0 p ((List.range most).map (kk key)) = some true := L1
    simp only [m_ticketlinelaw16_PageFills_l0, m_ticketlinelaw16_PageFills_l0_b, show ¬ (i : Int) ≤ (most : Int) by omega, decide_false, Bool.false_eq_true, if_false, L1]
  | succ m ih =>
    intro n N i p hN hm hn F
    obtain ⟨n, rfl⟩ : ∃ q, n = q + 1 := ⟨n - 1, by omega⟩
    rw [show min i most = i by omega] at F ⊢
    have w2 : IntKind.i64.wrap ((i : Int) + 1) = ((i + 1 : Nat) : Int) := by rw [wI (by omega) (by omega)]; omega
    have wb1 : IntKind.u8.wrap (IntKind.i64.wrap ((97 : Int) + IntKind.i64.wrap (Int.tdiv (i : Int) 10))) = 97 + (i : Int) / 10 := by
      rw [Int.tdiv_eq_ediv_of_nonneg (by omega), wI (x := (i : Int) / 10) (by omega) (by omega), wI (by omega) (by omega), wB (by omega) (by omega)]
    have wb2 : IntKind.u8.wrap (IntKind.i64.wrap ((48 : Int) + Int.tmod (i : Int) 10)) = 48 + (i : Int) % 10 := by
      rw [Int.tmod_eq_emod_of_nonneg (by omega), wI (by omega) (by omega), wB (by omega) (by omega)]
    have wb3 : IntKind.u8.wrap ((key : Int) - 2) = ((key - 2 : Nat) : Int) := by rw [wB (by omega) (by omega)]; omega
    have hf : fits (key - 2) 1 := by unfold fits; omega
    have hsz : (strOf [97 + (i : Int) / 10, 48 + (i : Int) % 10]).size + (strOf (List.replicate (key - 2) 0)).size < 9223372036854775808 := by
      rw [strOf_size, strOf_size, List.length_replicate]; show 2 + (key - 2) < _; omega
    have hkk : strOf [97 + (i : Int) / 10, 48 + (i : Int) % 10] ++ strOf (List.replicate (key - 2) 0) = kk key i := rfl
    obtain ⟨q, e, R, hq⟩ := fl_insert k2 k24 h40 (i := i) (by omega) F
    simp only [m_ticketlinelaw16_PageFills_l0, m_ticketlinelaw16_PageFills_l0_b, show (i : Int) ≤ (most : Int) by omega, decide_true, if_true, wb1, wb2, wb3, Int.natCast_nonneg, Int.le_refl, Int.toNat_natCast, hf, hsz, hkk, R, Option.bind_some]
    by_cases ce : i = most
    · subst ce
      rw [if_pos (by omega)] at hq
      obtain ⟨rfl, rfl⟩ := hq
      have I := ih n N (i + 1) p hN (by omega) (by omega) (by rw [show min (i + 1) i = i by omega]; exact F)
      rw [show min (i + 1) i = i by omega] at I
      simp only [beq_self_eq_true, if_true, beq_refl_page, Bool.not_true, Bool.false_eq_true, if_false, bne_self_eq_false, w2, I]
    · have hlt : ((i : Int) + 1) * (1 + W key + W v.size) ≤ 108 := by
        rcases hc with h | h | h | h | h | h | h | h <;> rw [h] at h1 ⊢ <;> omega
      rw [if_neg (by omega)] at hq
      obtain ⟨rfl, F2, h9⟩ := hq
      have I := ih n N (i + 1) q hN (by omega) (by omega) (by rw [show min (i + 1) most = i + 1 by omega]; exact F2)
      rw [show min (i + 1) most = i + 1 by omega] at I
      have hne : ((i : Int) == (most : Int)) = false := by rw [Bool.eq_false_iff]; intro h; rw [beq_iff_eq] at h; omega
      have h9' : G q 9 = ((i + 1 : Nat) : Int) := by rw [h9]; omega
      have w3 : IntKind.i64.wrap ((i + 1 : Nat) : Int) = ((i + 1 : Nat) : Int) := wI (by omega) (by omega)
      have hfl : fits (((List.range i).map (kk key)).length + [kk key i].length) 16 := by unfold fits; simp; omega
      have hap : (List.range i).map (kk key) ++ [kk key i] = (List.range (i + 1)).map (kk key) := by rw [List.range_succ, List.map_append]; rfl
      simp only [hne, Bool.false_eq_true, if_false, bne_self_eq_false, rd_G, h9', w3, w2, hfl, if_true, hap, I]
end
theorem pageFills_true {a b : Int} (ha : 0 ≤ a ∧ a < 256) (hb : 0 ≤ b ∧ b < 256) (last : Bool) : m_ticketlinelaw16_PageFills a b last = some true := by
  unfold m_ticketlinelaw16_PageFills m_ticketlinelaw16_PageFills_a
  by_cases c1 : a > 40
  · simp only [c1, decide_true, if_true, known16, Option.bind_some]
  by_cases c2 : b < 2
  · simp only [c1, c2, decide_true, decide_false, if_true, Bool.false_eq_true, if_false, known16, Option.bind_some]
  by_cases c3 : b > 24
  · simp only [c1, c2, c3, decide_true, decide_false, if_true, Bool.false_eq_true, if_false, known16, Option.bind_some]
  obtain ⟨key, rfl⟩ := Int.eq_ofNat_of_zero_le hb.1
  have hEm := ref_Empty (level := 0) (low := eB) (high := eB) (by omega) (by omega) (by decide) (by decide)
  have hvs : ((strOf (List.replicate a.toNat (0 : Int))).size : Int) = a := by rw [strOf_size, List.length_replicate]; omega
  generalize hv : strOf (List.replicate a.toNat (0 : Int)) = v at hvs
  have h40 : v.size ≤ 40 := by omega
  have hc := cost_cases (key := key) (by omega) (by omega) h40
  have wa : IntKind.i64.wrap a = a := wI (by omega) (by omega)
  have wk : IntKind.i64.wrap ((key : Nat) : Int) = key := wI (by omega) (by omega)
  have hf : fits a.toNat 1 := by unfold fits; omega
  have W1 := W_nonneg (key : Int)
  have W2 := W_nonneg a
  have Wk := W_le (n := (key : Int)) (by omega)
  have Wa := W_le (n := a) (by omega)
  have w3 : IntKind.i64.wrap (1 + W (key : Int)) = 1 + W key := wI (by omega) (by omega)
  have w4 : IntKind.i64.wrap (1 + W (key : Int) + W a) = 1 + W key + W a := wI (by omega) (by omega)
  rw [hvs] at hc
  have hm : IntKind.i64.wrap (Int.tdiv 108 (1 + W (key : Int) + W a)) = ((108 / (1 + W (key : Int) + W a)).toNat : Int) := by
    rw [Int.tdiv_eq_ediv_of_nonneg (by omega)]
    rcases hc with h | h | h | h | h | h | h | h <;> rw [h] <;> decide
  have L := fills_l0 (key := key) (by omega) (by omega) h40 (most := (108 / (1 + W (key : Int) + W a)).toNat) (by rw [hvs]; rcases hc with h | h | h | h | h | h | h | h <;> rw [h] <;> decide) (by rw [hvs]; rcases hc with h | h | h | h | h | h | h | h <;> rw [h] <;> decide) last ((108 / (1 + W (key : Int) + W a)).toNat + 1) FUEL FUEL 0 (emptyS 0 eB eB) (by have := FUEL_big; omega) (by omega) (by rcases hc with h | h | h | h | h | h | h | h <;> rw [h] <;> have := FUEL_big <;> simp <;> omega) (by rw [Nat.zero_min]; exact fl_empty key v)
  rw [Nat.zero_min] at L
  have L : m_ticketlinelaw16_PageFills_l0 FUEL FUEL key last v (((108 / (1 + W (key : Int) + W a)).toNat : Nat) : Int) 0 (emptyS 0 eB eB) [] = some true := L
  simp only [c1, c2, c3, decide_false, Bool.false_eq_true, if_false, hEm, Option.bind_some, ha.1, Int.le_refl, if_true, hf, wk, wa, ref14_Words (n := (key : Int)) (by omega) (by omega), ref14_Words (n := a) (by omega) (by omega), w3, w4, show (1 + W (key : Int) + W a) ≠ 0 by omega, ne_eq, not_false_eq_true, hv, hm, L]
end Go.Ev.L
