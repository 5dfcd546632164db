/- The slots of a page: what the reference computes. -/
import Derived.Test.YtfdgkmligadcnaaB3
set_option linter.unusedVariables false
set_option linter.unusedSimpArgs false
namespace Go.Ev.L
open Go Go.Ev Go.Ev.M

theorem ref_SlotOf {w : Int} (h0 : 0 ≤ w) (h1 : w < 18446744073709551616) : m_ticketlineref14_SlotOf w = some (if atS w < 128 then ((atS w, (keyS w, (valS w, ()))), true) else (((0 : Int), ((0 : Int), ((0 : Int), ()))), false)) := by
  unfold m_ticketlineref14_SlotOf
  by_cases c : w ≥ 8388608
  · have : ¬ atS w < 128 := by unfold atS; omega
    simp [c, this]
  · have h : atS w < 128 := by unfold atS; omega
    simp only [c, decide_false, Bool.false_eq_true, if_false, h, if_true]
    rw [Int.tdiv_eq_ediv_of_nonneg h0, Int.tdiv_eq_ediv_of_nonneg h0, Int.tmod_eq_emod_of_nonneg h0, wU (x := w / 65536) (by omega) (by omega), wU (x := w / 256) (by omega) (by omega), Int.tmod_eq_emod_of_nonneg (by omega)]
    unfold atS keyS valS
    simp (disch := omega) only [wI]

theorem ref_End {a k v : Int} (ha : 0 ≤ a) (ha' : a < 1000000) (hk : 0 ≤ k) (hk' : k < 1000000) (hv : 0 ≤ v) (hv' : v < 1000000) : m_ticketlineref14_Slot_End (a, (k, (v, ()))) = some (a + W k + W v) := by
  have Wk := W_le hk
  have Wv := W_le hv
  unfold m_ticketlineref14_Slot_End
  dsimp only
  simp (disch := omega) only [ref14_Words, Option.bind_some, wI]

theorem ref_End' {w : Int} (ha : 0 ≤ atS w) (ha' : atS w < 128) : m_ticketlineref14_Slot_End (atS w, (keyS w, (valS w, ()))) = some (endS w) := by
  have hk := keyS_range w
  have hv := valS_range w
  rw [ref_End ha (by omega) hk.1 (by omega) hv.1 (by omega)]; rfl

theorem refValid_l1 {p : List Int} (hp : PageOK p) (s0 : Int → (List Int) → Option Bool) (i : Nat) (hi : i ≤ 108) (hs : Sized p i) (hj : ∀ j : Nat, j < i → Sized p j) : ∀ (m n N k : Nat), k + m = i → m < n →
    m_ticketlineref14_Valid_l1 N s0 n i k p (atS (sw p i)) (keyS (sw p i)) (valS (sw p i)) = if anyO p i k m = true then some false else s0 ((i + 1 : Nat) : Int) p := by
  intro m
  induction m with
  | zero =>
    intro n N k hk hn
    obtain ⟨n, rfl⟩ : ∃ q, n = q + 1 := ⟨n - 1, by omega⟩
    obtain rfl : k = i := by omega
    simp only [m_ticketlineref14_Valid_l1, m_ticketlineref14_Valid_l1_b, Int.lt_irrefl, decide_false, Bool.false_eq_true, if_false, anyO]
    rw [wI (x := (k : Int) + 1) (by omega) (by omega)]
    rfl
  | succ m ih =>
    intro n N k hk hn
    obtain ⟨n, rfl⟩ : ∃ q, n = q + 1 := ⟨n - 1, by omega⟩
    have := ih n N (k + 1) (by omega) (by omega)
    have hk' := hj k (by omega)
    have hw := hp.2.G (20 + k)
    simp only [m_ticketlineref14_Valid_l1, m_ticketlineref14_Valid_l1_b, rd_G, anyO]
    rw [wI (x := 20 + (k : Int)) (by omega) (by omega), wI (x := (k : Int) + 1) (by omega) (by omega), ref_SlotOf hw.1 hw.2]
    have e20 : G p (20 + (k : Int)) = sw p k := rfl
    rw [e20]
    simp only [show (k : Int) < i by omega, decide_true, if_true, show (0 : Int) ≤ 20 + (k : Int) by omega, show 20 + (k : Int) < 128 by omega, Option.bind_some, hk'.at1, ref_End' hk'.at0 hk'.at1, ref_End' hs.at0 hs.at1, overB, decide_eq_true_eq]
    rw [show (k : Int) + 1 = ((k + 1 : Nat) : Int) by omega]
    by_cases c1 : atS (sw p i) < endS (sw p k)
    · by_cases c2 : atS (sw p k) < endS (sw p i)
      · simp [c1, c2]
      · simp only [c1, c2, if_true, if_false, decide_true, decide_false, Bool.and_false, Bool.false_or]; exact this
    · simp only [c1, if_false, decide_false, Bool.false_and, Bool.false_or]; exact this

theorem refText {p : List Int} (hp : PageOK p) {i : Int} (h : Sized p i) : m_ticketlineref14_Text (win p (atS (sw p i)) (midS (sw p i) - atS (sw p i))) (keyS (sw p i)) = some (match keyOf p i with | some s => (s, true) | none => (⟨#[]⟩, false)) ∧
    m_ticketlineref14_Text (win p (midS (sw p i)) (endS (sw p i) - midS (sw p i))) (valS (sw p i)) = some (match valOf p i with | some s => (s, true) | none => (⟨#[]⟩, false)) := by
  have Wk := W_le h.key0
  have Wv := W_le h.val0
  have hend : endS (sw p i) = midS (sw p i) + W (valS (sw p i)) := rfl
  have hmid : midS (sw p i) = atS (sw p i) + W (keyS (sw p i)) := rfl
  have h1 := h.at0
  have h2 := h.end1
  have h3 := h.mid0
  have h4 := h.mid1
  have hlen := hp.1
  have W0 := W_nonneg (keyS (sw p i))
  have W1 := W_nonneg (valS (sw p i))
  have l1 : (win p (atS (sw p i)) (W (keyS (sw p i)))).length = (W (keyS (sw p i))).toNat := win_len (by omega) (by omega) (by omega)
  have l2 : (win p (midS (sw p i)) (W (valS (sw p i)))).length = (W (valS (sw p i))).toNat := win_len (by omega) (by omega) (by omega)
  rw [show midS (sw p i) - atS (sw p i) = W (keyS (sw p i)) by omega, show endS (sw p i) - midS (sw p i) = W (valS (sw p i)) by omega]
  rw [ref14_Text _ _ (hp.2.win _ _) (by omega) h.key0, ref14_Text _ _ (hp.2.win _ _) (by omega) h.val0]
  rw [if_neg (by omega), if_neg (by omega)]
  exact ⟨rfl, rfl⟩

theorem valid_tree (i ke va kind a top en : Int) (hk : 1 ≤ kind) (T : Option Bool) :
    (if (decide (ke > 24)) = true then some false
     else if (decide (ke < 1)) = true then
       (if (decide (i > 0)) = true then some false
        else if (kind == 1) = true then some false
        else if (decide (va > 40)) = true then some false
        else if (decide (kind > 1)) = true then (if (va != 8) = true then some false else if (decide (a < top)) = true then some false else if (decide (en > 128)) = true then some false else T)
        else if (decide (a < top)) = true then some false else if (decide (en > 128)) = true then some false else T)
     else if (decide (va > 40)) = true then some false
        else if (decide (kind > 1)) = true then (if (va != 8) = true then some false else if (decide (a < top)) = true then some false else if (decide (en > 128)) = true then some false else T)
        else if (decide (a < top)) = true then some false else if (decide (en > 128)) = true then some false else T) =
    if (decide (ke ≤ 24) && (decide (1 ≤ ke) || (!(kind == 1) && decide (i ≤ 0))) && (if kind == 1 then decide (va ≤ 40) else va == 8) && decide (top ≤ a) && decide (en ≤ 128)) = true then T else some false := by
  have tail : (if (decide (a < top)) = true then some false else if (decide (en > 128)) = true then some false else T) = if (decide (top ≤ a) && decide (en ≤ 128)) = true then T else some false := by
    by_cases c1 : a < top
    · simp only [c1, decide_true, if_true, show ¬ top ≤ a by omega, decide_false, Bool.false_and, Bool.false_eq_true, if_false]
    · by_cases c2 : en > 128
      · simp only [c1, c2, decide_true, if_true, show top ≤ a by omega, show ¬ en ≤ 128 by omega, decide_false, Bool.and_false, Bool.false_eq_true, if_false]
      · simp only [c1, c2, decide_true, if_true, show top ≤ a by omega, show en ≤ 128 by omega, decide_false, Bool.and_true, Bool.false_eq_true, if_false]
  simp only [tail]
  have mid : (if (decide (va > 40)) = true then some false
        else if (decide (kind > 1)) = true then (if (va != 8) = true then some false else if (decide (top ≤ a) && decide (en ≤ 128)) = true then T else some false)
        else if (decide (top ≤ a) && decide (en ≤ 128)) = true then T else some false) = if ((if kind == 1 then decide (va ≤ 40) else va == 8) && (decide (top ≤ a) && decide (en ≤ 128))) = true then T else some false := by
    generalize (decide (top ≤ a) && decide (en ≤ 128)) = q
    by_cases c1 : kind = 1
    · subst c1
      by_cases c2 : va > 40
      · simp [c2, show ¬ va ≤ 40 by omega]
      · simp [c2, show va ≤ 40 by omega]
    · have e1 : (kind == 1) = false := by simpa using c1
      by_cases c3 : va = 8
      · subst c3; simp [e1, show kind > 1 by omega]
      · have e3 : (va == 8) = false := by simpa using c3
        by_cases c2 : va > 40 <;> simp [e1, c2, e3, c3, show kind > 1 by omega]
  simp only [mid, Bool.and_assoc]
  generalize ((if kind == 1 then decide (va ≤ 40) else va == 8) && (decide (top ≤ a) && decide (en ≤ 128))) = q
  by_cases c1 : ke > 24
  · simp [c1, show ¬ ke ≤ 24 by omega]
  · by_cases c2 : ke < 1
    · by_cases c3 : i > 0
      · simp [c1, c2, c3, show ke ≤ 24 by omega, show ¬ 1 ≤ ke by omega, show ¬ i ≤ 0 by omega]
      · by_cases c4 : kind = 1
        · simp [c1, c2, c3, c4, show ke ≤ 24 by omega, show ¬ 1 ≤ ke by omega]
        · simp [c1, c2, c3, c4, show ke ≤ 24 by omega, show ¬ 1 ≤ ke by omega, show i ≤ 0 by omega]
    · simp [c1, c2, show ke ≤ 24 by omega, show 1 ≤ ke by omega]

theorem refValid_l0 {p : List Int} (hp : PageOK p) (hh : headB p = true) {c : Nat} (hc : c = count p) : ∀ (m n N i : Nat), 100000 < N → i + m = c → m < n → (∀ j : Nat, j < i → Sized p j) →
    m_ticketlineref14_Valid_l0 N n i p = some (validFrom p i m) := by
  have h9 := hp.2.G 9
  have h11 := hp.2.G 11
  simp only [headB, Bool.and_eq_true, decide_eq_true_eq] at hh
  have hcc : (c : Int) = G p 9 := by rw [hc]; unfold count; omega
  have w9 : IntKind.i64.wrap (G p 9) = G p 9 := wI (by omega) (by omega)
  have w11 : IntKind.i64.wrap (G p 11) = G p 11 := wI (by omega) (by omega)
  intro m
  induction m with
  | zero =>
    intro n N i hN hm hn hj
    obtain ⟨n, rfl⟩ : ∃ q, n = q + 1 := ⟨n - 1, by omega⟩
    simp only [m_ticketlineref14_Valid_l0, m_ticketlineref14_Valid_l0_b, rd_G, w9, show ¬ (i : Int) < G p 9 by omega, decide_false, Bool.false_eq_true, if_false, validFrom]
  | succ m ih =>
    intro n N i hN hm hn hj
    obtain ⟨n, rfl⟩ : ∃ q, n = q + 1 := ⟨n - 1, by omega⟩
    have hw : 0 ≤ sw p i ∧ sw p i < 18446744073709551616 := hp.2.G (20 + i)
    have hk := keyS_range (sw p i)
    have hv := valS_range (sw p i)
    have hat : 0 ≤ atS (sw p i) := by unfold atS; omega
    have e20 : G p (20 + (i : Int)) = sw p i := rfl
    have w20 : IntKind.i64.wrap (20 + (i : Int)) = 20 + (i : Int) := wI (by omega) (by omega)
    simp only [m_ticketlineref14_Valid_l0, m_ticketlineref14_Valid_l0_b, validFrom, rd_G, w9, w11, w20, e20, show (i : Int) < G p 9 by omega, decide_true, if_true, show (0 : Int) ≤ 20 + (i : Int) by omega, show 20 + (i : Int) < 128 by omega, ref_SlotOf hw.1 hw.2, Option.bind_some]
    by_cases c1 : atS (sw p i) < 128
    · simp only [c1, if_true, Bool.not_true, Bool.false_eq_true, if_false, ref_End' hat c1, Option.bind_some]
      refine (valid_tree i (keyS (sw p i)) (valS (sw p i)) (G p 8) (atS (sw p i)) (G p 11) (endS (sw p i)) (by omega) _).trans ?_
      have hsz' : (decide (keyS (sw p i) ≤ 24) && (decide (1 ≤ keyS (sw p i)) || (!(G p 8 == 1) && decide ((i : Int) ≤ 0))) && (if G p 8 == 1 then decide (valS (sw p i) ≤ 40) else valS (sw p i) == 8) && decide (G p 11 ≤ atS (sw p i)) && decide (endS (sw p i) ≤ 128)) = sizedB p i := by
        simp only [sizedB, c1, decide_true, Bool.true_and]
      rw [hsz']
      cases hsz : sizedB p i with
      | false => simp [slotB, goodB, hsz]
      | true =>
        have hs := sized_spec hp hsz
        have hL := refValid_l1 hp (m_ticketlineref14_Valid_l0 N n) i (by omega) hs hj i N N 0 (by omega) (by omega)
        have hL : m_ticketlineref14_Valid_l1 N (m_ticketlineref14_Valid_l0 N n) N i 0 p (atS (sw p i)) (keyS (sw p i)) (valS (sw p i)) = if anyO p i 0 i = true then some false else m_ticketlineref14_Valid_l0 N n ((i + 1 : Nat) : Int) p := hL
        obtain ⟨hT1, hT2⟩ := refText hp hs
        have hmid : midS (sw p i) = atS (sw p i) + W (keyS (sw p i)) := rfl
        have m2 := hs.mid2
        have m0 := hs.mid0
        have m1 := hs.mid1
        have e1 := hs.end1
        have s1 := hs.some
        have ky := hs.key
        have vl := hs.val
        have Wk := W_le hs.key0
        have wm : IntKind.i64.wrap (atS (sw p i) + W (keyS (sw p i))) = midS (sw p i) := by rw [wI (by omega) (by omega)]; exact hmid.symm
        have hIH := ih n N (i + 1) hN (by omega) (by omega) fun j hj' => by
          by_cases e : j = i
          · subst e; exact hs
          · exact hj j (by omega)
        have tail : (some (slotB p i && validFrom p (i + 1) m)) = if textB p i = true then (if childB p i = true then (if anyO p i 0 i = true then some false else m_ticketlineref14_Valid_l0 N n ((i + 1 : Nat) : Int) p) else some false) else some false := by
          rw [hIH]
          simp only [slotB, goodB, hsz, Bool.true_and]
          cases textB p i <;> cases childB p i <;> cases anyO p i 0 i <;> rfl
        rw [tail]
        simp only [if_true, ref14_Words hs.key0 (by omega), Option.bind_some, wm, show (0 : Int) ≤ midS (sw p i) by omega, show midS (sw p i) ≤ 128 by omega, hat, m0, hT1, hT2, show (0 : Int) ≤ endS (sw p i) by omega, e1, m1, hL]
        unfold textB
        cases keyOf p i with
        | none => simp
        | some k =>
          cases valOf p i with
          | none => simp
          | some v =>
            by_cases c8 : G p 8 > 1
            · have hm2 := m2 (by omega)
              by_cases d1 : G p (midS (sw p i)) < 1
              · simp [childB, c8, d1, hm2, show ¬ 1 ≤ G p (midS (sw p i)) by omega]
              · by_cases d2 : G p (midS (sw p i)) > 511
                · simp [childB, c8, d1, d2, hm2, show ¬ G p (midS (sw p i)) ≤ 511 by omega]
                · simp [childB, c8, d1, d2, hm2, show 1 ≤ G p (midS (sw p i)) by omega, show G p (midS (sw p i)) ≤ 511 by omega]
            · simp [childB, c8]
    · have hsz : sizedB p i = false := by simp [sizedB, c1]
      simp [slotB, goodB, hsz, c1]

theorem ref_Valid {p : List Int} (hp : PageOK p) : m_ticketlineref14_Valid p = some (validB p) := by
  unfold m_ticketlineref14_Valid m_ticketlineref14_Valid_a validB
  rw [ref_fence hp (a := 12) (by omega) (by omega), ref_fence hp (a := 16) (by omega) (by omega)]
  have h8 := hp.2.G 8
  have h9 := hp.2.G 9
  have h10 := hp.2.G 10
  have h11 := hp.2.G 11
  have hl := fun hh hf => refValid_l0 hp hh (c := count p) rfl (count p) FUEL FUEL 0 (by have := FUEL_big; omega) (by omega) hf (fun j hj => by omega)
  simp only [rd_G, Option.bind_some]
  by_cases c1 : G p 8 < 1
  · simp [c1, headB, show ¬ (1 ≤ G p 8) by omega]
  by_cases c2 : G p 8 > 6
  · simp [c1, c2, headB, show ¬ (G p 8 ≤ 6) by omega]
  by_cases c3 : G p 9 > 108
  · simp [c1, c2, c3, headB, show ¬ (G p 9 ≤ 108) by omega]
  by_cases c4 : G p 10 > 511
  · simp [c1, c2, c3, c4, headB, show ¬ (G p 10 ≤ 511) by omega]
  simp (disch := omega) only [wU]
  by_cases c6 : G p 11 < 20 + G p 9
  · simp [c1, c2, c3, c4, c6, headB, show ¬ (20 + G p 9 ≤ G p 11) by omega]
  by_cases c5 : G p 11 > 128
  · simp [c1, c2, c3, c4, c5, c6, headB, show ¬ (G p 11 ≤ 128) by omega]
  have hx := fun hh => hl hh (by have := FUEL_big; unfold count; omega)
  have hb : headB p = ((fenceS p 12).isSome && (fenceS p 16).isSome) := by
    simp [headB, show 1 ≤ G p 8 by omega, show G p 8 ≤ 6 by omega, show G p 9 ≤ 108 by omega, show G p 10 ≤ 511 by omega, show 20 + G p 9 ≤ G p 11 by omega, show G p 11 ≤ 128 by omega]
  simp only [c1, c2, c3, c4, c5, c6, decide_false, Bool.false_eq_true, if_false]
  rw [hb] at hx ⊢
  cases h12 : fenceS p 12 <;> cases h16 : fenceS p 16 <;> simp_all
end Go.Ev.L
