/- Law 05: the next key, the separator. -/
import Derived.Test.YtmageoiakgcgmaaK1
set_option linter.unusedVariables false
set_option linter.unusedSimpArgs false
set_option maxRecDepth 10000
namespace Go.Ev.L
open Go Go.Ev Go.Ev.M
open Go.Lib (compareBytes)

theorem cpL_get : ∀ (x y : List UInt8), cpL x y < x.length → cpL x y < y.length → x.getD (cpL x y) 0 ≠ y.getD (cpL x y) 0 := by
  intro x
  induction x with
  | nil => intro y h; simp at h
  | cons a x ih =>
    intro y h1 h2
    cases y with
    | nil => simp at h2
    | cons b y =>
      by_cases e : a = b
      · simp only [cpL, e, if_true, List.length_cons] at h1 h2 ⊢
        simpa using ih y (by omega) (by omega)
      · simp [cpL, e]
theorem bl_cp : ∀ (x y : List UInt8), bl x y = true ↔ cpL x y < y.length ∧ (cpL x y = x.length ∨ cpL x y < x.length ∧ x.getD (cpL x y) 0 < y.getD (cpL x y) 0) := by
  intro x
  induction x with
  | nil => intro y; cases y with
    | nil => simp [cpL, Op.bytesLess]
    | cons b y => simp [cpL, Op.bytesLess]
  | cons a x ih =>
    intro y
    cases y with
    | nil => simp [cpL, Op.bytesLess]
    | cons b y =>
      rw [bl_cons, Bool.or_eq_true, Bool.and_eq_true, decide_eq_true_eq, beq_iff_eq]
      by_cases e : a = b
      · subst e
        simp only [cpL, if_true, List.length_cons, true_and, List.getD_cons_succ]
        rw [ih y]
        constructor
        · rintro (h | ⟨h1, h2⟩)
          · exact absurd h (UInt8.lt_irrefl _)
          · exact ⟨by omega, h2.imp (by omega) fun ⟨h3, h4⟩ => ⟨by omega, h4⟩⟩
        · rintro ⟨h1, h2⟩
          exact .inr ⟨by omega, h2.imp (by omega) fun ⟨h3, h4⟩ => ⟨by omega, h4⟩⟩
      · simp only [cpL, e, if_false, List.length_cons, false_and, or_false, List.getD_cons_zero]
        constructor
        · intro h; exact ⟨by omega, .inr ⟨by omega, h⟩⟩
        · rintro ⟨_, h | ⟨_, h⟩⟩
          · omega
          · exact h
/-- a beginning of a string is not after it -/
theorem bl_take (x : List UInt8) (k : Nat) : bl x (x.take k) = false := by
  rw [Bool.eq_false_iff]
  intro h
  rw [bl_cp] at h
  obtain ⟨h1, h2⟩ := h
  have h3 : (x.take k).length ≤ cpL x (x.take k) := by
    rw [cpL_iff]
    have : (x.take k).length ≤ k := by rw [List.length_take]; omega
    have h4 : (x.take k).length ≤ x.length := by rw [List.length_take]; omega
    refine ⟨h4, Nat.le_refl _, ?_⟩
    rw [List.take_length]
    rw [List.length_take]
    by_cases c : k ≤ x.length
    · rw [Nat.min_eq_left c]
    · rw [Nat.min_eq_right (by omega), List.take_of_length_le (Nat.le_refl _), List.take_of_length_le (by omega)]
  omega
theorem cmpI_lt {a b : ByteArray} : cmpI a b < 0 ↔ strLt a b = true := by
  unfold cmpI
  cases h : strLt a b with
  | true => simp
  | false => cases h2 : strLt b a <;> simp
theorem cmpI_gt {a b : ByteArray} : 0 < cmpI a b ↔ strLt b a = true := by
  unfold cmpI
  cases h : strLt a b with
  | true => have := strLt_asymm h; simp [this]
  | false => cases h2 : strLt b a <;> simp
theorem cmpI_eq {a b : ByteArray} : cmpI a b = 0 ↔ a = b := by
  rcases strLt_tri a b with h | h | h
  · constructor
    · intro h1; have := cmpI_lt.2 h; omega
    · intro h1; subst h1; rw [strLt_irrefl] at h; cases h
  · subst h; simp [cmpI, strLt_irrefl]
  · constructor
    · intro h1; have := cmpI_gt.2 h; omega
    · intro h1; subst h1; rw [strLt_irrefl] at h; cases h
theorem cmpI_range (a b : ByteArray) : cmpI a b = -1 ∨ cmpI a b = 0 ∨ cmpI a b = 1 := by
  unfold cmpI
  cases strLt a b <;> cases strLt b a <;> simp
theorem cmpI_neg (a b : ByteArray) : cmpI b a = - cmpI a b := by
  unfold cmpI
  cases h : strLt a b with
  | true => rw [strLt_asymm h]; simp
  | false => cases h2 : strLt b a <;> simp

def betS (a b : ByteArray) : ByteArray := b.extract 0 (cpS a b + 1)
theorem lt_cp {a b : ByteArray} (h : strLt a b = true) : cpS a b < b.size := by
  rw [strLt_bl, bl_cp, bsL_length] at h; exact h.1
theorem keys_Between {a b : ByteArray} (ha : a.size ≤ 100000) (hb : b.size ≤ 100000) : m_keys_Between a b = some (
    if ¬ (1 ≤ a.size ∧ a.size ≤ 24) ∨ ¬ (1 ≤ b.size ∧ b.size ≤ 24) then ((⟨#[]⟩ : ByteArray), (2 : Int)) else if strLt a b = true then (betS a b, 0) else (⟨#[]⟩, 13)) := by
  unfold m_keys_Between
  rw [validKey, validKey, keys_Compare, keys_Prefix ha]
  by_cases c1 : 1 ≤ a.size ∧ a.size ≤ 24
  · by_cases c2 : 1 ≤ b.size ∧ b.size ≤ 24
    · simp only [c1, c2, decide_true, and_self, Option.bind_some, Bool.not_true, Bool.false_eq_true, if_false, not_true, or_self]
      by_cases h : strLt a b = true
      · have h1 := cmpI_lt.2 h
        have h2 := lt_cp h
        have w : IntKind.i64.wrap ((cpS a b : Int) + 1) = ((cpS a b + 1 : Nat) : Int) := by rw [wI (by omega) (by omega)]; omega
        simp only [show ¬ cmpI a b ≥ 0 by omega, decide_false, Bool.false_eq_true, if_false, w, Int.natCast_nonneg, if_true, show ((cpS a b + 1 : Nat) : Int) ≤ (b.size : Int) by omega, Int.toNat_natCast, h, betS]
      · have h1 : cmpI a b ≥ 0 := by
          by_cases c : cmpI a b < 0
          · exact absurd (cmpI_lt.1 c) h
          · omega
        simp only [h1, decide_true, if_true, h, if_false, Bool.false_eq_true]
    · simp only [c1, c2, decide_true, decide_false, and_self, Option.bind_some, Bool.not_true, Bool.not_false, Bool.false_eq_true, if_false, if_true, not_true, not_false_eq_true, or_true]
  · simp only [c1, decide_false, Option.bind_some, Bool.not_false, if_true, not_false_eq_true, true_or]
/-- a beginning of at most the common part is not after the first one -/
theorem take_le {a b : ByteArray} {n : Nat} (h : n ≤ cpS a b) : strLt a (b.extract 0 n) = false := by
  rw [strLt_bl, bsL_extract]
  have := (cpL_iff (bsL a) (bsL b) n).1 h
  rw [← this.2.2]
  exact bl_take _ _
theorem bet_gt {a b : ByteArray} (h : strLt a b = true) : strLt a (betS a b) = true := by
  have h2 := lt_cp h
  unfold betS
  rw [strLt_bl, bl_cp, bsL_length] at h
  rw [strLt_bl, bl_cp, bsL_extract]
  have hle := cpS_le a b
  have hc : cpL (bsL a) ((bsL b).take (cpS a b + 1)) = cpS a b := by
    have h3 : cpS a b ≤ cpL (bsL a) ((bsL b).take (cpS a b + 1)) := by
      rw [cpL_iff]
      have := (cpL_iff (bsL a) (bsL b) (cpS a b)).1 (Nat.le_refl _)
      refine ⟨this.1, by rw [List.length_take, bsL_length]; omega, ?_⟩
      rw [List.take_take, Nat.min_eq_left (by omega)]; exact this.2.2
    have h4 : ¬ cpS a b + 1 ≤ cpL (bsL a) ((bsL b).take (cpS a b + 1)) := by
      intro h5
      rw [cpL_iff] at h5
      have : cpS a b + 1 ≤ cpL (bsL a) (bsL b) := by
        rw [cpL_iff]
        refine ⟨h5.1, by rw [bsL_length]; omega, ?_⟩
        have := h5.2.2
        rwa [List.take_take, Nat.min_self] at this
      exact absurd this (by unfold cpS; omega)
    omega
  rw [hc, List.length_take, bsL_length]
  have hg : ((bsL b).take (cpS a b + 1)).getD (cpS a b) 0 = (bsL b).getD (cpS a b) 0 := by
    rw [List.getD_eq_getElem?_getD, List.getD_eq_getElem?_getD, List.getElem?_take, if_pos (by omega)]
  rw [hg, bsL_length]
  exact ⟨by omega, by unfold cpS at *; exact h.2⟩
theorem between_l0 {a b : ByteArray} (ha : a.size ≤ 100000) (hb : b.size ≤ 100000) (h : strLt a b = true) : ∀ (m n N i : Nat), 1 ≤ i → i + m = cpS a b + 1 → m < n →
    m_ticketlineref05_Between_l0 N n a b i = some (betS a b, 0) := by
  have h2 := lt_cp h
  have szE : ∀ i, i ≤ b.size → (b.extract 0 i).size = i := fun i hi => by rw [← bsL_length, bsL_extract, List.length_take, bsL_length]; omega
  intro m
  induction m with
  | zero =>
    intro n N i h1 hm hn
    obtain ⟨n, rfl⟩ : ∃ q, n = q + 1 := ⟨n - 1, by omega⟩
    obtain rfl : i = cpS a b + 1 := by omega
    have hg : ¬ cmpI (betS a b) a ≤ 0 := by
      have := cmpI_gt.2 (bet_gt h); omega
    have hc := ref05_Compare (a := betS a b) (b := a) (by unfold betS; rw [szE _ (by omega)]; omega)
    unfold betS at hc hg ⊢
    simp only [m_ticketlineref05_Between_l0, m_ticketlineref05_Between_l0_b, Int.natCast_nonneg, if_true, show ((cpS a b + 1 : Nat) : Int) ≤ (b.size : Int) by omega, Int.toNat_natCast, hc, Option.bind_some, hg, decide_false, Bool.false_eq_true, if_false]
  | succ m ih =>
    intro n N i h1 hm hn
    obtain ⟨n, rfl⟩ : ∃ q, n = q + 1 := ⟨n - 1, by omega⟩
    have hg : cmpI (b.extract 0 i) a ≤ 0 := by
      by_cases c : 0 < cmpI (b.extract 0 i) a
      · have h5 := cmpI_gt.1 c
        rw [take_le (by omega)] at h5; cases h5
      · omega
    have hc := ref05_Compare (a := b.extract 0 i) (b := a) (by rw [szE _ (by omega)]; omega)
    have w : IntKind.i64.wrap ((i : Int) + 1) = ((i + 1 : Nat) : Int) := by rw [wI (by omega) (by omega)]; omega
    simp only [m_ticketlineref05_Between_l0, m_ticketlineref05_Between_l0_b, Int.natCast_nonneg, if_true, show (i : Int) ≤ (b.size : Int) by omega, Int.toNat_natCast, hc, Option.bind_some, hg, decide_true, w, ih n N (i + 1) (by omega) (by omega) (by omega)]
theorem ref05_Between {a b : ByteArray} (ha : a.size ≤ 100000) (hb : b.size ≤ 100000) : m_ticketlineref05_Between a b = some (if strLt a b = true then (betS a b, (0 : Int)) else (⟨#[]⟩, 13)) := by
  unfold m_ticketlineref05_Between m_ticketlineref05_Between_a
  rw [ref05_Compare ha]
  by_cases h : strLt a b = true
  · have h1 := cmpI_lt.2 h
    have h2 := lt_cp h
    have := between_l0 ha hb h (cpS a b) FUEL FUEL 1 (by omega) (by omega) (by have := FUEL_big; omega)
    simp only [Option.bind_some, show ¬ cmpI a b ≥ 0 by omega, decide_false, Bool.false_eq_true, if_false, h, if_true]
    exact_mod_cast this
  · have h1 : cmpI a b ≥ 0 := by
      by_cases c : cmpI a b < 0
      · exact absurd (cmpI_lt.1 c) h
      · omega
    simp only [Option.bind_some, h1, decide_true, if_true, h, if_false, Bool.false_eq_true]
theorem between05 {a b w : ByteArray} {e : Int} (ha : a.size ≤ 100000) (hb : b.size ≤ 100000)
    (h : (if ¬ (1 ≤ a.size ∧ a.size ≤ 24) ∨ ¬ (1 ≤ b.size ∧ b.size ≤ 24) then ((⟨#[]⟩ : ByteArray), (2 : Int)) else if strLt a b = true then (betS a b, 0) else (⟨#[]⟩, 13)) = (w, e)) : m_ticketlinelaw05_between a b w e = some true := by
  unfold m_ticketlinelaw05_between
  rw [keys_Between ha hb, h]
  simp only [Option.bind_some, strEq_refl, if_true, beq_self_eq_true]

/-- how many bytes are left when those in the end that are 255 are struck -/
def sn (k : ByteArray) : Nat → Nat
  | 0 => 0
  | n + 1 => if (bsL k).getD n 0 = 255 then sn k n else n + 1
theorem sn_le (k : ByteArray) : ∀ n, sn k n ≤ n := by
  intro n
  induction n with
  | zero => exact Nat.le_refl _
  | succ n ih => unfold sn; split <;> omega
theorem sn_last (k : ByteArray) : ∀ n, 0 < sn k n → (bsL k).getD (sn k n - 1) 0 ≠ 255 := by
  intro n
  induction n with
  | zero => intro h; simp [sn] at h
  | succ n ih =>
    unfold sn
    split
    · exact ih
    · rename_i h; intro _; simpa using h
theorem sn_rest (k : ByteArray) : ∀ n i, sn k n ≤ i → i < n → (bsL k).getD i 0 = 255 := by
  intro n
  induction n with
  | zero => intro i _ h; omega
  | succ n ih =>
    intro i h1 h2
    unfold sn at h1
    split at h1
    · rename_i h
      by_cases e : i = n
      · subst e; exact h
      · exact ih i h1 (by omega)
    · omega
/-- the string after those with n bytes of this one -/
def upS (k : ByteArray) (n : Nat) : ByteArray := ⟨((bsL k).take (n - 1) ++ [(bsL k).getD (n - 1) 0 + 1]).toArray⟩
theorem bsL_upS (k : ByteArray) (n : Nat) : bsL (upS k n) = (bsL k).take (n - 1) ++ [(bsL k).getD (n - 1) 0 + 1] := rfl
def aftS (k : ByteArray) : ByteArray × Int := if k.size < 24 then (k ++ ⟨#[0]⟩, 0) else if sn k k.size = 0 then (⟨#[]⟩, 9) else (upS k (sn k k.size), 0)

theorem bsL_strOf (l : List Int) : bsL (strOf l) = l.map fun n => UInt8.ofNat n.toNat := by
  unfold bsL strOf; simp
theorem bytesOf_bsL (k : ByteArray) : bytesOf k = (bsL k).map fun b => (b.toNat : Int) := rfl
theorem byte_up (x : UInt8) (h : x ≠ 255) : IntKind.u8.wrap ((x.toNat : Int) + 1) = ((x.toNat + 1 : Nat) : Int) := by
  have h1 := x.toNat_lt
  have h2 : x.toNat ≠ 255 := fun e => h (UInt8.toNat_inj.1 e)
  rw [wB (by omega) (by omega)]; omega
theorem ofNat_up (x : UInt8) : UInt8.ofNat (x.toNat + 1) = x + 1 := by
  rw [UInt8.ofNat_add]; simp
theorem after_l0 {k : ByteArray} (hk : k.size ≤ 100000) : ∀ (m N n : Nat), m ≤ k.size → m < n →
    m_keys_After_l0 N n ((bytesOf k).take m) = some (if sn k m = 0 then (⟨#[]⟩, (9 : Int)) else (upS k (sn k m), 0)) := by
  have hlen : (bytesOf k).length = k.size := by rw [bytesOf_bsL, List.length_map, bsL_length]
  have hG : ∀ i m : Nat, i < m → m ≤ k.size → G ((bytesOf k).take m) (i : Int) = (((bsL k).getD i 0).toNat : Int) := by
    intro i m h1 h2
    have h3 : i < (bsL k).length := by rw [bsL_length]; omega
    unfold G
    rw [Int.toNat_natCast, List.getD_eq_getElem?_getD, List.getElem?_take, if_pos h1, bytesOf_bsL, List.getElem?_map, List.getD_eq_getElem?_getD, List.getElem?_eq_getElem h3]; rfl
  intro m
  induction m with
  | zero =>
    intro N n hm hn
    obtain ⟨n, rfl⟩ : ∃ q, n = q + 1 := ⟨n - 1, by omega⟩
    simp [m_keys_After_l0, m_keys_After_l0_b, sn]
  | succ m ih =>
    intro N n hm hn
    obtain ⟨n, rfl⟩ : ∃ q, n = q + 1 := ⟨n - 1, by omega⟩
    have hl : ((bytesOf k).take (m + 1)).length = m + 1 := by rw [List.length_take, hlen]; omega
    have w : IntKind.i64.wrap (((m + 1 : Nat) : Int) - 1) = (m : Int) := by rw [wI (by omega) (by omega)]; omega
    have hw : win ((bytesOf k).take (m + 1)) 0 ((m : Int) - 0) = (bytesOf k).take m := by
      unfold win
      rw [show (0 : Int).toNat = 0 from rfl, List.drop_zero, List.take_take, show ((m : Int) - 0).toNat = m by omega, Nat.min_eq_left (by omega)]
    have g := hG m (m + 1) (by omega) hm
    have IH := ih N n (by omega) (by omega)
    simp only [m_keys_After_l0, m_keys_After_l0_b, hl, w, hw, rd_G, g, IH, show ((m + 1 : Nat) : Int) > 0 by omega, decide_true, if_true, Int.natCast_nonneg, show (m : Int) < ((m + 1 : Nat) : Int) by omega, show (m : Int) ≤ ((m + 1 : Nat) : Int) by omega]
    by_cases e : (bsL k).getD m 0 = 255
    · have e1 : ((((bsL k).getD m 0).toNat : Int) == 255) = true := by rw [e]; rfl
      have e3 : ((((255 : UInt8).toNat : Nat) : Int) == 255) = true := rfl
      simp only [e1, e3, if_true, sn, e]
    · have e1 : ((((bsL k).getD m 0).toNat : Int) == 255) = false := by
        rw [Bool.eq_false_iff]; intro h; rw [beq_iff_eq] at h; exact e (UInt8.toNat_inj.1 (by have : (255 : UInt8).toNat = 255 := rfl; omega))
      have e2 : (((m + 1 : Nat) : Int) == 0) = false := by
        rw [Bool.eq_false_iff]; intro h; rw [beq_iff_eq] at h; omega
      simp only [e1, e2, Bool.false_eq_true, if_false, sn, e, Nat.succ_ne_zero, Nat.add_one_ne_zero]
      congr 2
      refine bsL_inj ?_
      rw [bsL_strOf, bsL_upS, byte_up _ e, Int.toNat_natCast]
      refine List.ext_getElem? fun j => ?_
      rw [List.getElem?_map, List.getElem?_set, hl, List.getElem?_take]
      rw [show m + 1 - 1 = m by omega]
      by_cases c1 : m = j
      · subst c1
        rw [if_pos rfl, if_pos (by omega), List.getElem?_append_right (by rw [List.length_take, bsL_length]; omega)]
        simp only [Option.map_some, Int.toNat_natCast, ofNat_up]
        rw [List.length_take, bsL_length, Nat.min_eq_left (by omega), Nat.sub_self]; rfl
      · rw [if_neg c1]
        by_cases c2 : j < m
        · rw [if_pos (by omega), List.getElem?_append_left (by rw [List.length_take, bsL_length]; omega), List.getElem?_take, if_pos c2, bytesOf_bsL, List.getElem?_map]
          have h3 : j < (bsL k).length := by rw [bsL_length]; omega
          rw [List.getElem?_eq_getElem h3]
          simp
        · rw [if_neg (by omega)]
          symm
          rw [Option.map_none, List.getElem?_eq_none]
          rw [List.length_append, List.length_take, bsL_length, List.length_singleton]; omega
theorem keys_After {k : ByteArray} (hk : k.size ≤ 100000) : m_keys_After k = some (if ¬ (1 ≤ k.size ∧ k.size ≤ 24) then (⟨#[]⟩, (2 : Int)) else aftS k) := by
  unfold m_keys_After m_keys_After_a aftS
  rw [validKey]
  by_cases c1 : 1 ≤ k.size ∧ k.size ≤ 24
  · simp only [c1, and_self, decide_true, Option.bind_some, Bool.not_true, Bool.false_eq_true, if_false, not_true]
    by_cases c2 : k.size < 24
    · have c2' : (k.size : Int) < 24 := by omega
      have hs : (⟨#[0]⟩ : ByteArray).size = 1 := rfl
      simp only [c2, c2', decide_true, if_true, hs, show k.size + 1 < 9223372036854775808 by omega]
    · have c2' : ¬ (k.size : Int) < 24 := by omega
      have := after_l0 hk k.size FUEL FUEL (Nat.le_refl _) (by have := FUEL_big; omega)
      have hl : (bytesOf k).length = k.size := by rw [bytesOf_bsL, List.length_map, bsL_length]
      rw [List.take_of_length_le (by omega)] at this
      simp only [c2, c2', decide_false, Bool.false_eq_true, if_false, show k.size < 9223372036854775808 by omega, if_true, this]
  · simp only [c1, decide_false, Option.bind_some, Bool.not_false, if_true, not_false_eq_true]
theorem refAfter_l0 {k : ByteArray} (hk : k.size ≤ 100000) : ∀ (m N n : Nat), m ≤ k.size → m < n →
    m_ticketlineref05_After_l0 N n k m = some (if sn k m = 0 then (⟨#[]⟩, (9 : Int)) else (upS k (sn k m), 0)) := by
  intro m
  induction m with
  | zero =>
    intro N n hm hn
    obtain ⟨n, rfl⟩ : ∃ q, n = q + 1 := ⟨n - 1, by omega⟩
    simp [m_ticketlineref05_After_l0, m_ticketlineref05_After_l0_b, sn]
  | succ m ih =>
    intro N n hm hn
    obtain ⟨n, rfl⟩ : ∃ q, n = q + 1 := ⟨n - 1, by omega⟩
    have w : IntKind.i64.wrap (((m + 1 : Nat) : Int) - 1) = (m : Int) := by rw [wI (by omega) (by omega)]; omega
    have IH := ih N n (by omega) (by omega)
    simp only [m_ticketlineref05_After_l0, m_ticketlineref05_After_l0_b, w, bt_bsL, IH, show ((m + 1 : Nat) : Int) > 0 by omega, decide_true, if_true, Int.natCast_nonneg, show (m : Int) < (k.size : Int) by omega, show (m : Int) ≤ (k.size : Int) by omega]
    by_cases e : (bsL k).getD m 0 = 255
    · have e1 : ((((bsL k).getD m 0).toNat : Int) == 255) = true := by rw [e]; rfl
      have e3 : ((((255 : UInt8).toNat : Nat) : Int) == 255) = true := rfl
      simp only [e1, e3, if_true, sn, e]
    · have e1 : ((((bsL k).getD m 0).toNat : Int) == 255) = false := by
        rw [Bool.eq_false_iff]; intro h; rw [beq_iff_eq] at h; exact e (UInt8.toNat_inj.1 (by have : (255 : UInt8).toNat = 255 := rfl; omega))
      have e2 : (((m + 1 : Nat) : Int) == 0) = false := by
        rw [Bool.eq_false_iff]; intro h; rw [beq_iff_eq] at h; omega
      have hs : (k.extract 0 m).size = m := by rw [← bsL_length, bsL_extract, List.length_take, bsL_length]; omega
      have ht : ∀ x : Int, (strOf [x]).size = 1 := fun x => by rw [strOf_size]; rfl
      simp only [e1, e2, Bool.false_eq_true, if_false, sn, e, Nat.succ_ne_zero, Nat.add_one_ne_zero, Int.toNat_natCast, hs, ht, show m + 1 < 9223372036854775808 by omega, if_true]
      congr 2
      refine bsL_inj ?_
      rw [bsL_append, bsL_extract, bsL_strOf, bsL_upS, byte_up _ e, show m + 1 - 1 = m by omega]
      simp only [List.map_cons, List.map_nil, Int.toNat_natCast, ofNat_up]
theorem ref05_After {k : ByteArray} (hk : k.size ≤ 100000) : m_ticketlineref05_After k = some (aftS k) := by
  unfold m_ticketlineref05_After m_ticketlineref05_After_a aftS
  by_cases c2 : k.size < 24
  · have c2' : (k.size : Int) < 24 := by omega
    have ht : (strOf [0]).size = 1 := by rw [strOf_size]; rfl
    simp only [c2, c2', decide_true, if_true, ht, show k.size + 1 < 9223372036854775808 by omega]
    congr 1
  · have c2' : ¬ (k.size : Int) < 24 := by omega
    have := refAfter_l0 hk k.size FUEL FUEL (Nat.le_refl _) (by have := FUEL_big; omega)
    simp only [c2, c2', decide_false, Bool.false_eq_true, if_false, this]
theorem after05 {k w : ByteArray} {e : Int} (hk : k.size ≤ 100000) (h : (if ¬ (1 ≤ k.size ∧ k.size ≤ 24) then (⟨#[]⟩, (2 : Int)) else aftS k) = (w, e)) : m_ticketlinelaw05_after k w e = some true := by
  unfold m_ticketlinelaw05_after
  rw [keys_After hk, h]
  simp only [Option.bind_some, strEq_refl, if_true, beq_self_eq_true]

theorem keysNexts_true (a b : ByteArray) : m_ticketlinelaw05_KeysNexts a b = some true := by
  unfold m_ticketlinelaw05_KeysNexts
  by_cases h1 : (a.size : Int) > 100
  · simp only [h1, decide_true, if_true, known05, Option.bind_some]
  by_cases h2 : (b.size : Int) > 100
  · simp only [h1, h2, decide_true, if_true, known05, Option.bind_some, decide_false, Bool.false_eq_true, if_false]
  simp only [h1, h2, decide_false, Bool.false_eq_true, if_false, ref05_Key, Option.bind_some]
  have ha : a.size ≤ 100000 := by omega
  have hb : b.size ≤ 100000 := by omega
  by_cases c1 : 1 ≤ a.size ∧ a.size ≤ 24
  · simp only [c1, and_self, decide_true, Bool.not_true, Bool.false_eq_true, if_false, ref05_After ha, Option.bind_some]
    rw [after05 (w := (aftS a).1) (e := (aftS a).2) ha (by rw [if_neg (by simpa using c1)])]
    simp only [Option.bind_some, Bool.not_true, Bool.false_eq_true, if_false]
    by_cases c2 : 1 ≤ b.size ∧ b.size ≤ 24
    · simp only [c2, and_self, decide_true, Bool.not_true, Bool.false_eq_true, if_false, ref05_Between ha hb, Option.bind_some]
      rw [between05 ha hb (by rw [if_neg (by simp [c1, c2])])]
      simp only [Option.bind_some, if_true, known05]
    · simp only [c2, decide_false, Bool.not_false, if_true]
      rw [between05 ha hb (by rw [if_pos (.inr c2)])]
      simp only [Option.bind_some, if_true, known05]
  · simp only [c1, decide_false, Bool.not_false, if_true]
    rw [after05 ha (by rw [if_pos c1]), between05 ha hb (by rw [if_pos (.inl c1)]), between05 hb ha (by rw [if_pos (.inr c1)])]
    simp only [Option.bind_some, if_true, known05]
end Go.Ev.L
