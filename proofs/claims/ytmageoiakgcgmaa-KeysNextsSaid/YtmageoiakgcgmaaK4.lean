/- Law 05: the theorem of the stage. -/
import Derived.Test.YtmageoiakgcgmaaK3
set_option linter.unusedVariables false
set_option linter.unusedSimpArgs false
set_option maxRecDepth 10000
namespace Go.Ev.L
open Go Go.Ev Go.Ev.M

theorem u8_lt_up {x : UInt8} (h : x ≠ 255) : x < x + 1 := by
  have h1 := x.toNat_lt
  have h2 : x.toNat ≠ 255 := fun e => h (UInt8.toNat_inj.1 e)
  rw [UInt8.lt_iff_toNat_lt, UInt8.toNat_add]
  have : (1 : UInt8).toNat = 1 := rfl
  omega
theorem u8_up_le {x y : UInt8} (h : x ≠ 255) (hy : x < y) : ¬ y < x + 1 := by
  have h1 := x.toNat_lt
  have h2 : x.toNat ≠ 255 := fun e => h (UInt8.toNat_inj.1 e)
  rw [UInt8.lt_iff_toNat_lt] at *
  rw [UInt8.toNat_add]
  have : (1 : UInt8).toNat = 1 := rfl
  omega
theorem bl_nil (c : List UInt8) : bl c [] = false := by cases c <;> rfl
theorem bl_zero : ∀ (K c : List UInt8), bl K c = true → bl c (K ++ [0]) = false := by
  intro K
  induction K with
  | nil =>
    intro c h
    cases c with
    | nil => exact absurd h (by decide)
    | cons x c =>
      have h0 : ¬ x < (0 : UInt8) := by rw [UInt8.lt_iff_toNat_lt]; have : (0 : UInt8).toNat = 0 := rfl; omega
      show bl (x :: c) [0] = false
      rw [bl_cons, bl_nil]; simp [h0]
  | cons a K ih =>
    intro c h
    cases c with
    | nil => rw [bl_nil] at h; cases h
    | cons x c =>
      rw [bl_cons, Bool.or_eq_true, Bool.and_eq_true, decide_eq_true_eq, beq_iff_eq] at h
      show bl (x :: c) (a :: (K ++ [0])) = false
      rw [bl_cons]
      rcases h with h | ⟨rfl, h⟩
      · have h1 := u8_asymm h
        have h2 := u8_ne h
        simp [h1, h2.symm]
      · rw [ih c h]; simp
theorem bl_app_zero : ∀ K : List UInt8, bl K (K ++ [0]) = true := by
  intro K
  induction K with
  | nil => rfl
  | cons a K ih => show bl (a :: K) (a :: (K ++ [0])) = true; rw [bl_cons, ih]; simp
theorem bl_full : ∀ (T c : List UInt8), (∀ x, x ∈ T → x = 255) → c.length ≤ T.length → bl T c = false := by
  intro T
  induction T with
  | nil => intro c _ h; cases c with
    | nil => rfl
    | cons _ _ => simp at h
  | cons a T ih =>
    intro c hT h
    cases c with
    | nil => rfl
    | cons x c =>
      have ha := hT a (List.mem_cons_self ..)
      have h0 : ¬ (255 : UInt8) < x := by
        have := x.toNat_lt
        rw [UInt8.lt_iff_toNat_lt]; have : (255 : UInt8).toNat = 255 := rfl; omega
      rw [bl_cons, ih c (fun y hy => hT y (List.mem_cons_of_mem _ hy)) (by simpa using h), ha]
      simp [h0]
theorem bl_up : ∀ (P : List UInt8) (x : UInt8) (T : List UInt8), x ≠ 255 → bl (P ++ x :: T) (P ++ [x + 1]) = true := by
  intro P x T hx
  induction P with
  | nil => show bl (x :: T) [x + 1] = true; rw [bl_cons]; simp [u8_lt_up hx]
  | cons a P ih => show bl (a :: (P ++ x :: T)) (a :: (P ++ [x + 1])) = true; rw [bl_cons, ih]; simp
theorem bl_between : ∀ (P : List UInt8) (x : UInt8) (T c : List UInt8), x ≠ 255 → (∀ y, y ∈ T → y = 255) → c.length ≤ P.length + 1 + T.length → bl (P ++ x :: T) c = true → bl c (P ++ [x + 1]) = false := by
  intro P
  induction P with
  | nil =>
    intro x T c hx hT hl h
    cases c with
    | nil => rw [bl_nil] at h; cases h
    | cons y c =>
      have h0 : bl (x :: T) (y :: c) = true := h
      rw [bl_cons, Bool.or_eq_true, Bool.and_eq_true, decide_eq_true_eq, beq_iff_eq] at h0
      clear h
      rcases h0 with h | ⟨rfl, h⟩
      · show bl (y :: c) [x + 1] = false
        have := u8_up_le hx h
        rw [bl_cons, bl_nil]; simp [this]
      · rw [bl_full T c hT (by simp at hl; omega)] at h; cases h
  | cons a P ih =>
    intro x T c hx hT hl h
    cases c with
    | nil => rw [bl_nil] at h; cases h
    | cons y c =>
      have h0 : bl (a :: (P ++ x :: T)) (y :: c) = true := h
      rw [bl_cons, Bool.or_eq_true, Bool.and_eq_true, decide_eq_true_eq, beq_iff_eq] at h0
      clear h
      show bl (y :: c) (a :: (P ++ [x + 1])) = false
      rw [bl_cons]
      rcases h0 with h | ⟨rfl, h⟩
      · have h1 := u8_asymm h
        have h2 := u8_ne h
        simp [h1, h2.symm]
      · rw [ih x T c hx hT (by simp at hl; omega) h]; simp

theorem aft_spec {k : ByteArray} (h1 : 1 ≤ k.size) (h2 : k.size ≤ 24) (he : (aftS k).2 = 0) :
    strLt k (aftS k).1 = true ∧ 1 ≤ (aftS k).1.size ∧ (aftS k).1.size ≤ 24 ∧ ∀ c : ByteArray, c.size ≤ 24 → strLt k c = true → strLt c (aftS k).1 = false := by
  by_cases c1 : k.size < 24
  · have e : aftS k = (k ++ ⟨#[0]⟩, 0) := if_pos c1
    have eb : bsL (k ++ ⟨#[0]⟩) = bsL k ++ [0] := by rw [bsL_append]; rfl
    have es : (k ++ (⟨#[0]⟩ : ByteArray)).size = k.size + 1 := by rw [← bsL_length, eb, List.length_append, bsL_length]; rfl
    rw [e]
    refine ⟨by rw [strLt_bl, eb]; exact bl_app_zero _, by show 1 ≤ (k ++ (⟨#[0]⟩ : ByteArray)).size; omega, by show (k ++ (⟨#[0]⟩ : ByteArray)).size ≤ 24; omega, fun c _ h => ?_⟩
    rw [strLt_bl] at h ⊢
    rw [eb]; exact bl_zero _ _ h
  · by_cases c2 : sn k k.size = 0
    · have e : aftS k = (⟨#[]⟩, 9) := by unfold aftS; rw [if_neg c1, if_pos c2]
      rw [e] at he; exact absurd he (by decide)
    · have e : aftS k = (upS k (sn k k.size), 0) := by unfold aftS; rw [if_neg c1, if_neg c2]
      rw [e]
      dsimp only
      generalize hm : sn k k.size = m at *
      have hle : m ≤ k.size := by rw [← hm]; exact sn_le _ _
      have hx : (bsL k).getD (m - 1) 0 ≠ 255 := by rw [← hm]; exact sn_last k k.size (by omega)
      have hlt : m - 1 < (bsL k).length := by rw [bsL_length]; omega
      have hxe : (bsL k).getD (m - 1) 0 = (bsL k)[m - 1] := by rw [List.getD_eq_getElem?_getD, List.getElem?_eq_getElem hlt]; rfl
      have hk : bsL k = (bsL k).take (m - 1) ++ (bsL k).getD (m - 1) 0 :: (bsL k).drop m := by
        rw [hxe]
        have := List.take_append_drop (m - 1) (bsL k)
        rw [List.drop_eq_getElem_cons hlt, show m - 1 + 1 = m by omega] at this
        exact this.symm
      have hT : ∀ y, y ∈ (bsL k).drop m → y = 255 := by
        intro y hy
        obtain ⟨i, hi⟩ := List.getElem?_of_mem hy
        rw [List.getElem?_drop] at hi
        have h3 := (List.getElem?_eq_some_iff.1 hi).1
        rw [bsL_length] at h3
        have := sn_rest k k.size (m + i) (by omega) h3
        rw [List.getD_eq_getElem?_getD, hi] at this
        simpa using this
      have hus : (upS k m).size = m := by rw [← bsL_length, bsL_upS, List.length_append, List.length_take, bsL_length]; simp; omega
      refine ⟨?_, by omega, by omega, fun c hc h => ?_⟩
      · rw [strLt_bl, bsL_upS]
        have := bl_up ((bsL k).take (m - 1)) _ ((bsL k).drop m) hx
        rw [← hk] at this; exact this
      · rw [strLt_bl] at h ⊢
        rw [bsL_upS]
        rw [hk] at h
        refine bl_between _ _ ((bsL k).drop m) _ hx hT ?_ h
        rw [bsL_length, List.length_take, List.length_drop, bsL_length]; omega

theorem B_bsL (s : ByteArray) (j : Nat) : B s j = (((bsL s).getD j 0).toNat : Int) := rfl
theorem cp_B {a b : ByteArray} {x : Nat} (h : x < cpS a b) : B a x = B b x := by
  have h1 := (cpL_iff (bsL a) (bsL b) (cpS a b)).1 (Nat.le_refl _)
  rw [B_bsL, B_bsL]
  have : (bsL a).getD x 0 = (bsL b).getD x 0 := by
    have h2 := congrArg (fun l => l[x]?) h1.2.2
    simp only [List.getElem?_take, if_pos h] at h2
    rw [List.getD_eq_getElem?_getD, List.getD_eq_getElem?_getD, h2]
  rw [this]
theorem cp_diff {a b : ByteArray} (h1 : cpS a b < a.size) (h2 : cpS a b < b.size) : B a (cpS a b) ≠ B b (cpS a b) ∧ (B a (cpS a b) < B b (cpS a b) ↔ strLt a b = true) := by
  have hd := cpL_get (bsL a) (bsL b) (by rw [bsL_length]; exact h1) (by rw [bsL_length]; exact h2)
  have hl := bl_cp (bsL a) (bsL b)
  rw [bsL_length, bsL_length] at hl
  rw [strLt_bl, hl, B_bsL, B_bsL]
  unfold cpS at *
  refine ⟨fun e => hd (UInt8.toNat_inj.1 (by omega)), ?_⟩
  rw [UInt8.lt_iff_toNat_lt]
  constructor
  · intro h; exact ⟨h2, .inr ⟨h1, by omega⟩⟩
  · rintro ⟨_, h | ⟨_, h⟩⟩
    · omega
    · omega
theorem wd_lt {f g : Nat → Int} (hf : ∀ x, 0 ≤ f x ∧ f x < 256) (hg : ∀ x, 0 ≤ g x ∧ g x < 256) {j c : Nat} (h1 : 8 * j ≤ c) (h2 : c < 8 * j + 8) (he : ∀ x, 8 * j ≤ x → x < c → f x = g x) (hd : f c < g c) : wd f j < wd g j := by
  have f0 := hf (8 * j); have g0 := hg (8 * j)
  have f1 := hf (8 * j + 1); have g1 := hg (8 * j + 1)
  have f2 := hf (8 * j + 2); have g2 := hg (8 * j + 2)
  have f3 := hf (8 * j + 3); have g3 := hg (8 * j + 3)
  have f4 := hf (8 * j + 4); have g4 := hg (8 * j + 4)
  have f5 := hf (8 * j + 5); have g5 := hg (8 * j + 5)
  have f6 := hf (8 * j + 6); have g6 := hg (8 * j + 6)
  have f7 := hf (8 * j + 7); have g7 := hg (8 * j + 7)
  unfold wd
  rcases (by omega : c = 8 * j ∨ c = 8 * j + 1 ∨ c = 8 * j + 2 ∨ c = 8 * j + 3 ∨ c = 8 * j + 4 ∨ c = 8 * j + 5 ∨ c = 8 * j + 6 ∨ c = 8 * j + 7) with rfl | rfl | rfl | rfl | rfl | rfl | rfl | rfl
  · omega
  · have e0 := he (8 * j) (by omega) (by omega); omega
  · have e0 := he (8 * j) (by omega) (by omega); have e1 := he (8 * j + 1) (by omega) (by omega); omega
  · have e0 := he (8 * j) (by omega) (by omega); have e1 := he (8 * j + 1) (by omega) (by omega); have e2 := he (8 * j + 2) (by omega) (by omega); omega
  · have e0 := he (8 * j) (by omega) (by omega); have e1 := he (8 * j + 1) (by omega) (by omega); have e2 := he (8 * j + 2) (by omega) (by omega); have e3 := he (8 * j + 3) (by omega) (by omega); omega
  · have e0 := he (8 * j) (by omega) (by omega); have e1 := he (8 * j + 1) (by omega) (by omega); have e2 := he (8 * j + 2) (by omega) (by omega); have e3 := he (8 * j + 3) (by omega) (by omega); have e4 := he (8 * j + 4) (by omega) (by omega); omega
  · have e0 := he (8 * j) (by omega) (by omega); have e1 := he (8 * j + 1) (by omega) (by omega); have e2 := he (8 * j + 2) (by omega) (by omega); have e3 := he (8 * j + 3) (by omega) (by omega); have e4 := he (8 * j + 4) (by omega) (by omega); have e5 := he (8 * j + 5) (by omega) (by omega); omega
  · have e0 := he (8 * j) (by omega) (by omega); have e1 := he (8 * j + 1) (by omega) (by omega); have e2 := he (8 * j + 2) (by omega) (by omega); have e3 := he (8 * j + 3) (by omega) (by omega); have e4 := he (8 * j + 4) (by omega) (by omega); have e5 := he (8 * j + 5) (by omega) (by omega); have e6 := he (8 * j + 6) (by omega) (by omega); omega
theorem part_byte {a b : ByteArray} {j x : Nat} (h : part a j 8 = part b j 8) (h1 : 8 * j ≤ x) (h2 : x < 8 * j + 8) : B a x = B b x := by
  have e := congrArg w8 h
  rw [w8_part, w8_part] at e
  simp only [List.cons.injEq, and_true] at e
  obtain ⟨a0, a1, a2, a3, a4, a5, a6, a7⟩ := e
  rcases (by omega : x = 8 * j ∨ x = 8 * j + 1 ∨ x = 8 * j + 2 ∨ x = 8 * j + 3 ∨ x = 8 * j + 4 ∨ x = 8 * j + 5 ∨ x = 8 * j + 6 ∨ x = 8 * j + 7) with rfl | rfl | rfl | rfl | rfl | rfl | rfl | rfl <;> assumption
/-- the first words that are not the same tell the order -/
theorem part_order {a b : ByteArray} (hs : a.size = b.size) {i : Nat} (he : ∀ j, j < i → part a j 8 = part b j 8) (hd : part a i 8 ≠ part b i 8) : part a i 8 < part b i 8 ↔ strLt a b = true := by
  have hcl := cpS_le a b
  by_cases hc : cpS a b = a.size
  · exfalso
    refine hd ?_
    rw [part_wd, part_wd]
    refine wd_congr fun x _ _ => ?_
    by_cases hx : x < a.size
    · exact cp_B (by omega)
    · rw [B_out (by omega), B_out (by omega)]
  · have h1 : cpS a b < a.size := by omega
    have h2 : cpS a b < b.size := by omega
    obtain ⟨d1, d2⟩ := cp_diff h1 h2
    have l1 : 8 * i ≤ cpS a b := by
      by_cases h : 8 * i ≤ cpS a b
      · exact h
      · exact absurd (part_byte (he (cpS a b / 8) (by omega)) (x := cpS a b) (by omega) (by omega)) d1
    have l2 : cpS a b < 8 * i + 8 := by
      by_cases h : cpS a b < 8 * i + 8
      · exact h
      · exfalso
        refine hd ?_
        rw [part_wd, part_wd]
        exact wd_congr fun x _ hx => cp_B (by omega)
    rw [part_wd, part_wd, ← d2]
    constructor
    · intro h
      rcases Int.lt_trichotomy (B a (cpS a b)) (B b (cpS a b)) with c | c | c
      · exact c
      · exact absurd c d1
      · have := wd_lt (B_range b) (B_range a) l1 l2 (fun x _ hx => (cp_B hx).symm) c
        omega
    · intro h
      exact wd_lt (B_range a) (B_range b) l1 l2 (fun x _ hx => cp_B hx) h

theorem cmp_m1 {a b : ByteArray} (h : strLt a b = true) : cmpI a b = -1 := by
  have h1 := cmpI_lt.2 h
  rcases cmpI_range a b with h | h | h <;> omega
theorem cmp_le {a b : ByteArray} (h : strLt b a = false) : cmpI a b ≤ 0 := by
  by_cases c : 0 < cmpI a b
  · rw [cmpI_gt.1 c] at h; cases h
  · omega
theorem bet_size {a b : ByteArray} (h : strLt a b = true) : (betS a b).size = cpS a b + 1 := by
  have := lt_cp h
  unfold betS
  rw [← bsL_length, bsL_extract, List.length_take, bsL_length]; omega
theorem holds_l13 (N : Nat) {a b : ByteArray} (ha : a.size ≤ 100) (hb : b.size ≤ 100) (h : strLt a b = true) : m_ticketlinelaw05_KeysHolds_l13 N a (betS a b) = some true := by
  have hs := bet_size h
  have hc := cpS_le a b
  have w : IntKind.i64.wrap (((betS a b).size : Int) - 1) = (cpS a b : Int) := by rw [wI (by omega) (by omega)]; omega
  simp only [m_ticketlinelaw05_KeysHolds_l13, m_ticketlinelaw05_KeysHolds_l13_b, w]
  by_cases h1 : (((betS a b).size : Int) == 1) = true
  · simp only [h1, if_true, known05, Option.bind_some]
  · have e : (betS a b).extract 0 (cpS a b) = b.extract 0 (cpS a b) := by
      refine bsL_inj ?_
      unfold betS
      rw [bsL_extract, bsL_extract, bsL_extract, List.take_take, Nat.min_eq_left (by omega)]
    have hle := cmp_le (take_le (a := a) (b := b) (n := cpS a b) (Nat.le_refl _))
    simp only [h1, Bool.false_eq_true, if_false, Int.natCast_nonneg, if_true, show (cpS a b : Int) ≤ ((betS a b).size : Int) by omega, Int.toNat_natCast, e, keys_Compare, Option.bind_some, hle, decide_true, known05]
theorem holds_l12 (N : Nat) {a b : ByteArray} (ha : a.size ≤ 100) (hb : b.size ≤ 100) (h : strLt a b = true) : m_ticketlinelaw05_KeysHolds_l12 N a b (betS a b) = some true := by
  have hs := bet_size h
  have hc := cpS_le a b
  have hlc := lt_cp h
  have w : IntKind.i64.wrap ((cpS a b : Int) + 1) = (cpS a b : Int) + 1 := wI (by omega) (by omega)
  have h1 := cmp_m1 (bet_gt h)
  have h2 : cmpI (betS a b) b ≤ 0 := by
    refine cmp_le ?_
    rw [strLt_bl]
    unfold betS
    rw [bsL_extract]
    exact bl_take _ _
  have h3 : (betS a b).size ≤ b.size ∧ (bsL b).take (betS a b).size = bsL (betS a b) := by
    refine ⟨by omega, ?_⟩
    rw [hs]; unfold betS; rw [bsL_extract]
  simp only [m_ticketlinelaw05_KeysHolds_l12, m_ticketlinelaw05_KeysHolds_l12_b, keys_Compare, Option.bind_some, h1, bne_self_eq_false, Bool.false_eq_true, if_false, show ¬ cmpI (betS a b) b > 0 by omega, decide_false, show ¬ ((betS a b).size : Int) < 1 by omega,
    keys_Prefix (show a.size ≤ 100000 by omega), w, show ¬ ((betS a b).size : Int) > (cpS a b : Int) + 1 by omega, hasPrefix, h3, and_self, decide_true, Bool.not_true, holds_l13 N ha hb h]
theorem holds_l9 (N : Nat) {a b : ByteArray} (ha : a.size ≤ 100) (hb : b.size ≤ 100) : m_ticketlinelaw05_KeysHolds_l9 N a b (cmpI a b) = some true := by
  simp only [m_ticketlinelaw05_KeysHolds_l9, m_ticketlinelaw05_KeysHolds_l9_b, keys_Between (show a.size ≤ 100000 by omega) (show b.size ≤ 100000 by omega), Option.bind_some]
  by_cases c1 : 1 ≤ a.size ∧ a.size ≤ 24
  · by_cases c2 : 1 ≤ b.size ∧ b.size ≤ 24
    · by_cases h : strLt a b = true
      · rw [if_neg (by simp [c1, c2]), if_pos h]
        have h1 := cmpI_lt.2 h
        simp only [m_ticketlinelaw05_KeysHolds_l10, m_ticketlinelaw05_KeysHolds_l10_b, m_ticketlinelaw05_KeysHolds_l11, m_ticketlinelaw05_KeysHolds_l11_b, validKey, c1, c2, and_self, decide_true, Option.bind_some, if_true, h1, beq_self_eq_true, Bool.not_true, Bool.false_eq_true, if_false, bne_self_eq_false, holds_l12 N ha hb h]
      · rw [if_neg (by simp [c1, c2]), if_neg h]
        have h1 : ¬ cmpI a b < 0 := fun c => h (cmpI_lt.1 c)
        have e13 : ((13 : Int) == 0) = false := rfl
        have n13 : ((13 : Int) != 0) = true := rfl
        simp only [m_ticketlinelaw05_KeysHolds_l10, m_ticketlinelaw05_KeysHolds_l10_b, m_ticketlinelaw05_KeysHolds_l11, m_ticketlinelaw05_KeysHolds_l11_b, validKey, c1, c2, and_self, decide_true, Option.bind_some, if_true, h1, decide_false, e13, n13, beq_self_eq_true, Bool.not_true, Bool.false_eq_true, if_false, strEq_refl, known05]
    · rw [if_pos (.inr c2)]
      have e2 : ((2 : Int) == 0) = false := rfl
      have n2 : ((2 : Int) != 0) = true := rfl
      simp only [m_ticketlinelaw05_KeysHolds_l10, m_ticketlinelaw05_KeysHolds_l10_b, m_ticketlinelaw05_KeysHolds_l11, m_ticketlinelaw05_KeysHolds_l11_b, validKey, c1, c2, and_self, decide_true, decide_false, Option.bind_some, if_true, e2, n2, beq_self_eq_true, Bool.not_true, Bool.false_eq_true, if_false, strEq_refl, known05]
  · rw [if_pos (.inl c1)]
    have e2 : ((2 : Int) == 0) = false := rfl
    have n2 : ((2 : Int) != 0) = true := rfl
    simp only [m_ticketlinelaw05_KeysHolds_l10, m_ticketlinelaw05_KeysHolds_l10_b, m_ticketlinelaw05_KeysHolds_l11, m_ticketlinelaw05_KeysHolds_l11_b, validKey, c1, decide_true, decide_false, Option.bind_some, if_true, e2, n2, beq_self_eq_true, Bool.not_true, Bool.false_eq_true, if_false, strEq_refl, known05]
theorem holds_l7 (N : Nat) {a b c : ByteArray} (ha : a.size ≤ 100) (hb : b.size ≤ 100) : m_ticketlinelaw05_KeysHolds_l7 N a b c (cmpI a b) = some true := by
  have L9 := holds_l9 N ha hb
  simp only [m_ticketlinelaw05_KeysHolds_l7, m_ticketlinelaw05_KeysHolds_l7_b, keys_After (show a.size ≤ 100000 by omega), Option.bind_some]
  by_cases c1 : 1 ≤ a.size ∧ a.size ≤ 24
  · rw [if_neg (by simp [c1])]
    simp only [m_ticketlinelaw05_KeysHolds_l8, m_ticketlinelaw05_KeysHolds_l8_b]
    by_cases he : (aftS a).2 = 0
    · obtain ⟨s1, s2, s3, s4⟩ := aft_spec c1.1 c1.2 he
      have h1 := cmp_m1 s1
      have hk : 1 ≤ (aftS a).1.size ∧ (aftS a).1.size ≤ 24 := ⟨s2, s3⟩
      simp only [he, beq_self_eq_true, if_true, keys_Compare, Option.bind_some, h1, bne_self_eq_false, Bool.false_eq_true, if_false, validKey, hk, and_self, decide_true, Bool.not_true, L9]
      by_cases c2 : 1 ≤ c.size ∧ c.size ≤ 24
      · simp only [c2, and_self, decide_true, if_true]
        by_cases c3 : cmpI a c < 0
        · have h3 := s4 c c2.2 (cmpI_lt.1 c3)
          have h4 : ¬ cmpI c (aftS a).1 < 0 := fun h => by rw [cmpI_lt.1 h] at h3; cases h3
          simp only [c3, decide_true, if_true, h4, decide_false, Bool.false_eq_true, if_false]
        · simp only [c3, decide_false, Bool.false_eq_true, if_false]
      · simp only [c2, decide_false, Bool.false_eq_true, if_false]
    · have he' : ((aftS a).2 == 0) = false := by simpa using he
      simp only [he', Bool.false_eq_true, if_false, L9]
  · rw [if_pos c1]
    have e2 : ((2 : Int) == 0) = false := rfl
    simp only [m_ticketlinelaw05_KeysHolds_l8, m_ticketlinelaw05_KeysHolds_l8_b, e2, Bool.false_eq_true, if_false, L9]
theorem holds_l6 {a b c : ByteArray} (ha : a.size ≤ 40) (hb : b.size ≤ 40) (hs : a.size = b.size) : ∀ (m n N i : Nat), i + m = (W a.size).toNat → m < n → (∀ j, j < i → part a j 8 = part b j 8) →
    m_ticketlinelaw05_KeysHolds_l6 N n a b c (cmpI a b) ((W a.size).toNat : Int) i (packS a) (packS b) = some true := by
  have hW := W_le (n := (a.size : Int)) (by omega)
  have la : (packS a).length = (W a.size).toNat := packS_length a
  have lb : (packS b).length = (W a.size).toNat := by rw [packS_length, hs]
  intro m
  induction m with
  | zero =>
    intro n N i hm hn he
    obtain ⟨n, rfl⟩ : ∃ q, n = q + 1 := ⟨n - 1, by omega⟩
    simp only [m_ticketlinelaw05_KeysHolds_l6, m_ticketlinelaw05_KeysHolds_l6_b, show ¬ (i : Int) < ((W a.size).toNat : Int) by omega, decide_false, Bool.false_eq_true, if_false, holds_l7 N (c := c) (show a.size ≤ 100 by omega) (show b.size ≤ 100 by omega)]
  | succ m ih =>
    intro n N i hm hn he
    obtain ⟨n, rfl⟩ : ∃ q, n = q + 1 := ⟨n - 1, by omega⟩
    have w : IntKind.i64.wrap ((i : Int) + 1) = ((i + 1 : Nat) : Int) := by rw [wI (by omega) (by omega)]; omega
    have g1 : G (packS a) (i : Int) = part a i 8 := by rw [G_get (by omega)]; simp [packS]
    have g2 : G (packS b) (i : Int) = part b i 8 := by rw [G_get (by omega)]; simp [packS]
    simp only [m_ticketlinelaw05_KeysHolds_l6, m_ticketlinelaw05_KeysHolds_l6_b, show (i : Int) < ((W a.size).toNat : Int) by omega, decide_true, if_true, Int.natCast_nonneg, show (i : Int) < ((packS a).length : Int) by omega, show (i : Int) < ((packS b).length : Int) by omega, rd_G, g1, g2, w]
    by_cases e : part a i 8 = part b i 8
    · rw [if_neg (by rw [e]; simp)]
      refine ih n N (i + 1) (by omega) (by omega) fun j hj => ?_
      by_cases hj' : j = i
      · rw [hj']; exact e
      · exact he j (by omega)
    · rw [if_pos (by simpa using e)]
      have hord := part_order hs he e
      have h1 : decide (part a i 8 < part b i 8) = decide (cmpI a b < 0) := by rw [decide_eq_decide, hord, cmpI_lt]
      simp only [h1, beq_self_eq_true, Bool.not_true, Bool.false_eq_true, if_false, holds_l7 N (c := c) (show a.size ≤ 100 by omega) (show b.size ≤ 100 by omega)]
theorem holds_l0 {a b c : ByteArray} (ha : a.size ≤ 100) (hb : b.size ≤ 100) : m_ticketlinelaw05_KeysHolds_l0 FUEL a b c (cmpI a b) = some true := by
  have L7 := holds_l7 FUEL (c := c) ha hb
  have hW := W_le (n := (a.size : Int)) (by omega)
  have hW0 := W_nonneg (a.size : Int)
  have hv : m_keys_ValidValue a = some (decide ((a.size : Int) ≤ 40)) := rfl
  simp only [m_ticketlinelaw05_KeysHolds_l0, m_ticketlinelaw05_KeysHolds_l0_b, m_ticketlinelaw05_KeysHolds_l1, m_ticketlinelaw05_KeysHolds_l1_b, m_ticketlinelaw05_KeysHolds_l2, m_ticketlinelaw05_KeysHolds_l2_b, m_ticketlinelaw05_KeysHolds_l3, m_ticketlinelaw05_KeysHolds_l3_b,
    m_ticketlinelaw05_KeysHolds_l4, m_ticketlinelaw05_KeysHolds_l4_b, m_ticketlinelaw05_KeysHolds_l5, m_ticketlinelaw05_KeysHolds_l5_b, keys_Pack, hv, Option.bind_some, keys_Words (show (a.size : Int) < 9223372036854775808 by omega)]
  by_cases c1 : a.size ≤ 40
  · have c1' : (a.size : Int) ≤ 40 := by omega
    have u := unpacks_pack c1
    have hl : (((packS a).length : Int) != W a.size) = false := by rw [packS_length, Int.toNat_of_nonneg hW0]; simp
    simp only [c1, c1', if_true, decide_true, beq_self_eq_true, Bool.not_true, Bool.false_eq_true, if_false, hl, u, Option.bind_some]
    by_cases c2 : b.size ≤ 40
    · simp only [c2, if_true, beq_self_eq_true]
      by_cases c3 : a.size = b.size
      · have hbe : ((a.size : Int) == (b.size : Int)) = true := by rw [c3]; simp
        have hle : (((packS a).length : Int) != ((packS b).length : Int)) = false := by rw [packS_length, packS_length, c3]; simp
        have L6 := holds_l6 (c := c) c1 c2 c3 (W a.size).toNat FUEL FUEL 0 (by omega) (by have := FUEL_big; omega) (by intro j hj; omega)
        rw [← packS_length] at L6
        have L6 : m_ticketlinelaw05_KeysHolds_l6 FUEL FUEL a b c (cmpI a b) ((packS a).length : Int) 0 (packS a) (packS b) = some true := L6
        simp only [hbe, hle, if_true, Bool.false_eq_true, if_false, L6]
      · have hbe : ((a.size : Int) == (b.size : Int)) = false := by rw [Bool.eq_false_iff]; intro h; rw [beq_iff_eq] at h; omega
        simp only [hbe, Bool.false_eq_true, if_false, L7]
    · have e5 : ((5 : Int) == 0) = false := rfl
      simp only [c2, if_false, e5, Bool.false_eq_true, L7]
  · have c1' : ¬ (a.size : Int) ≤ 40 := by omega
    have e5 : ((5 : Int) == 0) = false := rfl
    simp only [c1, c1', if_false, decide_false, e5, beq_self_eq_true, Bool.not_true, Bool.false_eq_true, L7]
theorem strLe_trans {a b c : ByteArray} (h1 : cmpI a b ≤ 0) (h2 : cmpI b c ≤ 0) : cmpI a c ≤ 0 := by
  refine cmp_le ?_
  rw [Bool.eq_false_iff]
  intro h
  have n1 : strLt b a = false := by rw [Bool.eq_false_iff]; intro h'; have := cmpI_gt.2 h'; omega
  have n2 : strLt c b = false := by rw [Bool.eq_false_iff]; intro h'; have := cmpI_gt.2 h'; omega
  rcases strLt_tri a b with k | k | k
  · rw [strLt_trans h k] at n2; cases n2
  · subst k; rw [h] at n2; cases n2
  · rw [k] at n1; cases n1
theorem keysHolds_true (a b c : ByteArray) : m_ticketlinelaw05_KeysHolds a b c = some true := by
  unfold m_ticketlinelaw05_KeysHolds m_ticketlinelaw05_KeysHolds_a
  by_cases h1 : (a.size : Int) > 100
  · simp only [h1, decide_true, if_true, known05, Option.bind_some]
  by_cases h2 : (b.size : Int) > 100
  · simp only [h1, h2, decide_true, if_true, known05, Option.bind_some, decide_false, Bool.false_eq_true, if_false]
  by_cases h3 : (c.size : Int) > 100
  · simp only [h1, h2, h3, decide_true, if_true, known05, Option.bind_some, decide_false, Bool.false_eq_true, if_false]
  have L0 := holds_l0 (c := c) (show a.size ≤ 100 by omega) (show b.size ≤ 100 by omega)
  have hr := cmpI_range a b
  have hn := cmpI_neg a b
  have hw : IntKind.i64.wrap (0 - cmpI b a) = cmpI a b := by rw [wI (by omega) (by omega)]; omega
  have he : (cmpI a b == 0) = strEq a b := by
    cases h : strEq a b with
    | true => rw [beq_iff_eq]; exact cmpI_eq.2 (strEq_iff.1 h)
    | false =>
      rw [Bool.eq_false_iff]; intro h'; rw [beq_iff_eq] at h'
      rw [strEq_iff.2 (cmpI_eq.1 h')] at h; cases h
  simp only [h1, h2, h3, decide_false, Bool.false_eq_true, if_false, keys_Compare, Option.bind_some, hw, bne_self_eq_false, show ¬ cmpI a b < -1 by omega, show ¬ cmpI a b > 1 by omega, he, beq_self_eq_true, Bool.not_true, L0]
  by_cases k1 : cmpI a b ≤ 0
  · by_cases k2 : cmpI b c ≤ 0
    · have k3 := strLe_trans k1 k2
      simp only [k1, k2, decide_true, if_true, show ¬ cmpI a c > 0 by omega, decide_false, Bool.false_eq_true, if_false]
    · simp only [k1, k2, decide_true, if_true, decide_false, Bool.false_eq_true, if_false]
  · simp only [k1, decide_false, Bool.false_eq_true, if_false]
end Go.Ev.L
