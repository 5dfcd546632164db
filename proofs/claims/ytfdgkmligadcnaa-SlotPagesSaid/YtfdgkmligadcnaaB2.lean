/- A page's fences, head and slots: what the program computes. -/
import Derived.Test.YtfdgkmligadcnaaB1
set_option linter.unusedVariables false
set_option linter.unusedSimpArgs false
namespace Go.Ev.L
open Go Go.Ev Go.Ev.M

/-- 128 words -/
def PageOK (p : List Int) : Prop := p.length = 128 ∧ U64 p

theorem U64.win {l : List Int} (h : U64 l) (a n : Int) : U64 (win l a n) := fun x hx => h x (List.mem_of_mem_drop (List.mem_of_mem_take hx))
theorem win_len {l : List Int} {a n : Int} (h0 : 0 ≤ a) (h1 : 0 ≤ n) (h : a + n ≤ l.length) : (win l a n).length = n.toNat := by
  have := win_length l h0 h1 h; omega
theorem win_add (l : List Int) {a b c : Int} (h0 : 0 ≤ a) (hb : 0 ≤ b) (hc : 0 ≤ c) : win l a (b + c) = win l a b ++ win l (a + b) c := by
  unfold Ev.win
  rw [show (b + c).toNat = b.toNat + c.toNat by omega, List.take_add, List.drop_drop, show (a + b).toNat = a.toNat + b.toNat by omega]

theorem w8_zero {w : Int} (h0 : 0 ≤ w) (h1 : w < 18446744073709551616) : (w8 w).all (· == 0) = (w == 0) := by
  by_cases h : w = 0
  · subst h; decide
  · have hb : (w == 0) = false := by simpa using h
    rw [hb, Bool.eq_false_iff]
    intro hc
    simp only [w8, List.all_cons, List.all_nil, Bool.and_true, Bool.and_eq_true, beq_iff_eq] at hc
    obtain ⟨c7, c6, c5, c4, c3, c2, c1, c0⟩ := hc
    apply h; omega
theorem b8_zero {l : List Int} (h : U64 l) : (b8 l).all (· == 0) = l.all (· == 0) := by
  induction l with
  | nil => rfl
  | cons w l ih =>
    have hw := h w (List.mem_cons_self ..)
    have := ih fun x hx => h x (List.mem_cons_of_mem _ hx)
    rw [show w :: l = [w] ++ l from rfl, b8_append, b8_one, List.all_append, List.all_append, w8_zero hw.1 hw.2, this]
    simp

theorem U_append {l m : List Int} (hm : U64 m) {n : Int} (h0 : 0 ≤ n) (h : n ≤ 8 * l.length) : U (l ++ m) n = if m.all (· == 0) = true then U l n else none := by
  unfold U zeroFrom
  have hlen : n.toNat ≤ (b8 l).length := by rw [b8_length]; omega
  rw [b8_append, List.drop_append_of_le_length hlen, List.all_append, b8_zero hm, List.take_append_of_le_length hlen]
  cases m.all (· == 0) <;> simp

/-! ### fences -/
def fenceS (p : List Int) (a : Int) : Option ByteArray := if G p a > 24 then none else U (win p (a + 1) 3) (G p a)

theorem fence_l0 {p : List Int} (v : List Int) (a nn used : Int) (r : Option (ByteArray × Int)) (h0 : 0 ≤ a) (h1 : a ≤ 100) (hu : a + 1 ≤ used) (hu' : used ≤ 128) (hv : v.length ≤ 1000)
    (hr : (m_keys_Unpack (win p (a + 1) (used - (a + 1))) nn).bind (fun r17 => some (r17.1, r17.2)) = r) : ∀ (n N i : Nat), i ≤ v.length → v.length < i + n →
    m_slot_fence_l0 N n p a nn used v v.length i = if (v.drop i).all (· == 0) = true then r else some (⟨#[]⟩, 12) := by
  intro n
  induction n with
  | zero => intro N i h1 h2; omega
  | succ n ih =>
    intro N i h2 h3
    simp only [m_slot_fence_l0, m_slot_fence_l0_b, rd_G]
    by_cases hi : i < v.length
    · have hg : G v (i : Int) = v[i] := by
        unfold G; rw [show (i : Int).toNat = i by omega, List.getD_eq_getElem?_getD, List.getElem?_eq_getElem hi]; rfl
      have hd : (v.drop i).all (· == 0) = (v[i] == 0 && (v.drop (i + 1)).all (· == 0)) := by rw [List.drop_eq_getElem_cons hi, List.all_cons]
      have := ih N (i + 1) (by omega) (by omega)
      rw [hd]
      simp (disch := omega) only [hg, wI]
      simp only [show (i : Int) < v.length by omega, decide_true, if_true, Int.natCast_nonneg]
      by_cases hx : v[i] = 0
      · simp only [hx, bne_self_eq_false, Bool.false_eq_true, if_false, beq_self_eq_true, Bool.true_and]
        exact_mod_cast this
      · simp [hx]
    · have hd : (v.drop i).all (· == 0) = true := by rw [List.drop_eq_nil_of_le (by omega)]; rfl
      simp (disch := omega) only [wI]
      simp only [show ¬ (i : Int) < v.length by omega, decide_false, Bool.false_eq_true, if_false, hd, if_true, show (0 : Int) ≤ used by omega, hu', show (0 : Int) ≤ a + 1 by omega, hu]
      exact hr

theorem slot_fence {p : List Int} (hp : PageOK p) {a : Int} (h0 : 0 ≤ a) (h1 : a ≤ 100) : m_slot_fence p a = some (match fenceS p a with | some s => (s, (0 : Int)) | none => (⟨#[]⟩, 12)) := by
  unfold m_slot_fence m_slot_fence_a fenceS
  simp only [rd_G, h0, show a < 128 by omega, if_true]
  by_cases h2 : G p a > 24
  · simp [h2]
  · have hg := hp.2.G a
    have hW := W_le (n := G p a) hg.1
    have hW3 : W (G p a) ≤ 3 := by omega
    have hW0 := W_nonneg (G p a)
    simp (disch := omega) only [h2, decide_false, Bool.false_eq_true, if_false, wI, keys_Words, Option.bind_some]
    simp only [show (0 : Int) ≤ a + 4 by omega, show a + 4 ≤ 128 by omega, show (0 : Int) ≤ a + 1 + W (G p a) by omega, show a + 1 + W (G p a) ≤ a + 4 by omega, if_true]
    have hlen := hp.1
    have hl1 : (win p (a + 1) (W (G p a))).length = (W (G p a)).toNat := win_len (by omega) (by omega) (by omega)
    have hl2 : (win p (a + 1 + W (G p a)) (a + 4 - (a + 1 + W (G p a)))).length = (a + 4 - (a + 1 + W (G p a))).toNat := win_len (by omega) (by omega) (by omega)
    have hU := keys_Unpack (win p (a + 1) (W (G p a))) (G p a) (hp.2.win _ _) (by omega)
    have := fence_l0 (p := p) (win p (a + 1 + W (G p a)) (a + 4 - (a + 1 + W (G p a)))) a (G p a) (a + 1 + W (G p a)) _ h0 h1 (by omega) (by omega) (by omega) rfl FUEL FUEL 0 (by omega) (by have := FUEL_big; omega)
    refine (by exact_mod_cast this : _ = _).trans ?_
    rw [show a + 1 + W (G p a) - (a + 1) = W (G p a) by omega, hU]
    have hs : win p (a + 1) 3 = win p (a + 1) (W (G p a)) ++ win p (a + 1 + W (G p a)) (a + 4 - (a + 1 + W (G p a))) := by
      rw [← win_add _ (by omega) (by omega) (by omega)]; congr 1; omega
    rw [hs, U_append (hp.2.win _ _) hg.1 (by omega), List.drop_zero]
    simp only [show ¬ G p a < 0 by omega, show ¬ G p a > 40 by omega, if_false, show ((win p (a + 1) (W (G p a))).length : Int) = W (G p a) by omega, ne_eq, not_true]
    split
    · cases U (win p (a + 1) (W (G p a))) (G p a) <;> rfl
    · rfl

theorem ref_fence {p : List Int} (hp : PageOK p) {a : Int} (h0 : 0 ≤ a) (h1 : a ≤ 100) : m_ticketlineref14_fence p a = some (match fenceS p a with | some s => (s, true) | none => (⟨#[]⟩, false)) := by
  unfold m_ticketlineref14_fence fenceS
  simp only [rd_G, h0, show a < 128 by omega, if_true]
  by_cases h2 : G p a > 24
  · simp [h2]
  · have hg := hp.2.G a
    have hlen := hp.1
    have hl : (win p (a + 1) 3).length = 3 := win_len (by omega) (by omega) (by omega)
    simp (disch := omega) only [h2, decide_false, Bool.false_eq_true, if_false, wI]
    simp only [show (0 : Int) ≤ a + 4 by omega, show a + 4 ≤ 128 by omega, show (0 : Int) ≤ a + 1 by omega, show a + 1 ≤ a + 4 by omega, if_true, show a + 4 - (a + 1) = 3 by omega]
    rw [ref14_Text _ _ (hp.2.win _ _) (by omega) hg.1]
    simp only [Option.bind_some, hl, show ¬ G p a > 8 * ((3 : Nat) : Int) by omega, if_false]
    rfl

/-! ### the head -/
def headB (p : List Int) : Bool := decide (1 ≤ G p 8) && decide (G p 8 ≤ 6) && decide (G p 9 ≤ 108) && decide (G p 10 ≤ 511) && decide (20 + G p 9 ≤ G p 11) && decide (G p 11 ≤ 128) && (fenceS p 12).isSome && (fenceS p 16).isSome

theorem slot_head {p : List Int} (hp : PageOK p) : m_slot_head p = some (headB p) := by
  unfold m_slot_head headB
  rw [slot_fence hp (a := 12) (by omega) (by omega), slot_fence hp (a := 16) (by omega) (by omega)]
  have h8 := hp.2.G 8
  have h9 := hp.2.G 9
  have h10 := hp.2.G 10
  have h11 := hp.2.G 11
  simp only [rd_G, Option.bind_some]
  by_cases c1 : G p 8 < 1
  · simp [c1, show ¬ (1 ≤ G p 8) by omega]
  by_cases c2 : G p 8 > 6
  · simp [c1, c2, show ¬ (G p 8 ≤ 6) by omega]
  by_cases c3 : G p 9 > 108
  · simp [c1, c2, c3, show ¬ (G p 9 ≤ 108) by omega]
  by_cases c4 : G p 10 > 511
  · simp [c1, c2, c3, c4, show ¬ (G p 10 ≤ 511) by omega]
  by_cases c5 : G p 11 > 128
  · simp [c1, c2, c3, c4, c5, show ¬ (G p 11 ≤ 128) by omega]
  simp (disch := omega) only [wU]
  by_cases c6 : G p 11 < 20 + G p 9
  · simp [c1, c2, c3, c4, c5, c6, show ¬ (20 + G p 9 ≤ G p 11) by omega]
  simp only [c1, c2, c3, c4, c5, c6, decide_false, Bool.false_eq_true, if_false, show 1 ≤ G p 8 by omega, show G p 8 ≤ 6 by omega, show G p 9 ≤ 108 by omega, show G p 10 ≤ 511 by omega, show 20 + G p 9 ≤ G p 11 by omega, show G p 11 ≤ 128 by omega, decide_true, Bool.true_and]
  cases fenceS p 12 <;> cases fenceS p 16 <;> rfl

/-! ### a slot's word -/
def atS (w : Int) : Int := w / 65536
def keyS (w : Int) : Int := w / 256 % 256
def valS (w : Int) : Int := w % 256
def midS (w : Int) : Int := atS w + W (keyS w)
def endS (w : Int) : Int := midS w + W (valS w)

theorem band255 {x : Int} (h0 : 0 ≤ x) (h1 : x < 18446744073709551616) : band .u64 x 255 = x % 256 := by
  unfold band
  obtain ⟨n, rfl⟩ := Int.eq_ofNat_of_zero_le h0
  have e : (BitVec.ofInt 64 (n : Int) &&& BitVec.ofInt 64 (255 : Int)).toNat = n % 256 := by
    rw [BitVec.toNat_and]
    have e1 : (BitVec.ofInt 64 (n : Int)).toNat = n := by
      rw [BitVec.toNat_ofInt]; omega
    have e2 : (BitVec.ofInt 64 (255 : Int)).toNat = 255 := by decide
    rw [e1, e2]
    exact Nat.and_two_pow_sub_one_eq_mod n 8
  show IntKind.u64.wrap ((BitVec.ofInt 64 (n : Int) &&& BitVec.ofInt 64 (255 : Int)).toNat : Int) = _
  rw [e, wU (by omega) (by omega)]
  omega

theorem keyS_range (w : Int) : 0 ≤ keyS w ∧ keyS w < 256 := by unfold keyS; omega
theorem valS_range (w : Int) : 0 ≤ valS w ∧ valS w < 256 := by unfold valS; omega

theorem slot_entryOf {w : Int} (h0 : 0 ≤ w) (h1 : w < 18446744073709551616) : m_slot_entryOf w = some (atS w, midS w, endS w, keyS w, valS w, ()) := by
  have hk := keyS_range w
  have hv := valS_range w
  have Wk := W_le hk.1
  have Wv := W_le hv.1
  have e1 : shrI .u64 w 16 = w / 65536 := shr_u64 h0 16 65536 (by decide) (by decide)
  have e2 : shrI .u64 w 8 = w / 256 := shr_u64 h0 8 256 (by decide) (by decide)
  unfold m_slot_entryOf
  simp only [e1, e2]
  rw [band255 (by omega) (by omega), band255 h0 h1]
  change 0 ≤ w / 256 % 256 ∧ w / 256 % 256 < 256 at hk
  change 0 ≤ w % 256 ∧ w % 256 < 256 at hv
  unfold midS endS midS atS keyS valS
  unfold keyS at Wk
  unfold valS at Wv
  simp (disch := omega) only [wI, keys_Words, Option.bind_some]

/-- the word of a slot -/
def sw (p : List Int) (i : Int) : Int := G p (20 + i)
def sizedB (p : List Int) (i : Int) : Bool :=
  decide (atS (sw p i) < 128) && decide (keyS (sw p i) ≤ 24) && (decide (1 ≤ keyS (sw p i)) || (!(G p 8 == 1) && decide (i ≤ 0))) &&
  (if G p 8 == 1 then decide (valS (sw p i) ≤ 40) else valS (sw p i) == 8) && decide (G p 11 ≤ atS (sw p i)) && decide (endS (sw p i) ≤ 128)

theorem slot_sized {p : List Int} (hp : PageOK p) {i : Int} (h0 : 0 ≤ i) (h1 : i < 108) : m_slot_sized p i = some (sizedB p i) := by
  have hw := hp.2.G (20 + i)
  have e1 : shrI .u64 (G p (20 + i)) 16 = G p (20 + i) / 65536 := shr_u64 hw.1 16 65536 (by decide) (by decide)
  have hk := keyS_range (G p (20 + i))
  have hv := valS_range (G p (20 + i))
  have hE := slot_entryOf hw.1 hw.2
  have ha : atS (G p (20 + i)) = G p (20 + i) / 65536 := rfl
  rw [← ha] at e1
  unfold m_slot_sized sizedB sw
  dsimp only
  rw [wI (x := 20 + i) (by omega) (by omega)]
  simp only [show (0 : Int) ≤ 20 + i by omega, show 20 + i < 128 by omega, if_true]
  simp only [rd_G]
  rw [hE, Option.bind_some]
  dsimp only
  simp only [e1]
  by_cases c1 : atS (G p (20 + i)) ≥ 128
  · simp [c1, show ¬ atS (G p (20 + i)) < 128 by omega]
  have hat : 0 ≤ atS (G p (20 + i)) := by unfold atS; omega
  rw [wU (x := atS (G p (20 + i))) (by omega) (by omega)]
  by_cases c2 : keyS (G p (20 + i)) > 24
  · simp [c1, c2, show ¬ keyS (G p (20 + i)) ≤ 24 by omega]
  generalize endS (G p (20 + i)) = en
  generalize valS (G p (20 + i)) = va at *
  generalize keyS (G p (20 + i)) = ke at *
  generalize atS (G p (20 + i)) = at' at *
  by_cases c4 : G p 8 = 1
  · have e4 : (G p 8 == 1) = true := by simpa using c4
    simp only [e4, c1, c2, if_true, Bool.not_true, Bool.false_eq_true, if_false, decide_false, show at' < 128 by omega, show ke ≤ 24 by omega, decide_true, Bool.true_and, Bool.false_and, Bool.or_false]
    by_cases c3 : ke = 0
    · simp [c3]
    · have e3 : (ke == 0) = false := by simpa using c3
      simp only [e3, Bool.false_eq_true, if_false, show 1 ≤ ke by omega, decide_true, Bool.true_and]
      by_cases c6 : va > 40
      · simp only [c6, decide_true, if_true, show ¬ va ≤ 40 by omega, decide_false, Bool.false_and]
      · simp only [c6, decide_false, Bool.false_eq_true, if_false, show va ≤ 40 by omega, decide_true, Bool.true_and]
        by_cases c8 : at' ≥ G p 11
        · simp only [c8, decide_true, if_true, show G p 11 ≤ at' by omega, Bool.true_and]
        · simp only [c8, decide_false, Bool.false_eq_true, if_false, show ¬ G p 11 ≤ at' by omega, Bool.false_and]
  · have e4 : (G p 8 == 1) = false := by simpa using c4
    simp only [e4, c1, c2, if_true, Bool.not_true, Bool.not_false, Bool.false_eq_true, if_false, decide_false, show at' < 128 by omega, show ke ≤ 24 by omega, decide_true, Bool.true_and, Bool.false_and, Bool.or_false]
    have fin : (if (va != 8) = true then some false else if decide (at' ≥ G p 11) = true then some (decide (en ≤ 128)) else some false) = some (va == 8 && decide (G p 11 ≤ at') && decide (en ≤ 128)) := by
      by_cases c7 : va = 8
      · have e7 : (va == 8) = true := by simpa using c7
        have e7' : (va != 8) = false := by simp [c7]
        simp only [e7, e7', Bool.false_eq_true, if_false, Bool.true_and]
        by_cases c8 : at' ≥ G p 11
        · simp only [c8, decide_true, if_true, show G p 11 ≤ at' by omega, Bool.true_and]
        · simp only [c8, decide_false, Bool.false_eq_true, if_false, show ¬ G p 11 ≤ at' by omega, Bool.false_and]
      · have e7 : (va == 8) = false := by simpa using c7
        have e7' : (va != 8) = true := by simp [c7]
        simp only [e7, e7', if_true, Bool.false_and]
    by_cases c3 : ke = 0
    · have e3 : (ke == 0) = true := by simpa using c3
      simp only [e3, if_true, show ¬ 1 ≤ ke by omega, decide_false, Bool.false_or]
      by_cases c5 : i > 0
      · simp only [c5, decide_true, if_true, show ¬ i ≤ 0 by omega, decide_false, Bool.false_and]
      · simp only [c5, decide_false, Bool.false_eq_true, if_false, show i ≤ 0 by omega, decide_true, Bool.true_and]
        exact fin
    · have e3 : (ke == 0) = false := by simpa using c3
      simp only [e3, Bool.false_eq_true, if_false, show 1 ≤ ke by omega, decide_true, Bool.true_or, Bool.true_and]
      exact fin
end Go.Ev.L
