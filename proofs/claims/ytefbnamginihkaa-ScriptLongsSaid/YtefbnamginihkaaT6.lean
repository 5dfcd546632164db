/- Seat 04: the reference looks for the shortest bytes. -/
import Derived.Test.YtefbnamginihkaaT5
set_option linter.unusedVariables false
set_option linter.unusedSimpArgs false
set_option maxRecDepth 10000
namespace Go.Ev.L.T4
open Go Go.Ev Go.Ev.M Go.Ev.L

def hit (k th n v tk x p : Int) : Prop := (headS x p).1 = k ∧ (if k = 1 ∨ k = 3 then x / 8 = th else th = 0) ∧ (headS x p).2.2.2.1 = v ∧ (headS x p).2.2.2.2.2.2.2.1 = tk ∧ (k ≠ 3 → (headS x p).2.2.1 = n)
theorem head_kind (x p q : Int) : (headS x p).1 = (headS x q).1 := by
  unfold headS
  repeat' split
  all_goals rfl
theorem head_zero (x p : Int) : (headS x p).2.1 = 0 := by
  unfold headS
  repeat' split
  all_goals rfl
theorem ref04_threaded (k : Int) : m_ticketlineref04_threaded k = some (decide (k = 1 ∨ k = 3)) := by
  unfold m_ticketlineref04_threaded
  by_cases c : k = 1
  · simp [c]
  · by_cases d : k = 3
    · simp [c, d]
    · simp [c, d]
section
variable (k th n v : Int) (key val old : ByteArray) (tk : Int)
abbrev S0 := Int → Int → Int → Int → Int → ByteArray → ByteArray → ByteArray → Int → Option (List Int × Bool)
abbrev S1 := Int → Int → Int → Int → Int → Int → ByteArray → ByteArray → ByteArray → Int → Option (List Int × Bool)
def Found (N : Nat) (x p : Int) (r : Option (List Int × Bool)) : Prop := ∃ (s0 : S0) (s1 : S1) (a2 a3 a4 : Int) (z1 z2 z3 : ByteArray) (a5 : Int), r = m_ticketlineref04_Bytes_l2 N s0 s1 N (strOf (needS v)) 0 k th n v key val old tk k a2 a3 a4 z1 z2 z3 a5 [x, p]
theorem inner_step {x p : Int} (hx : 0 ≤ x ∧ x < 256) (hp : 0 ≤ p ∧ p < 256) (N m : Nat) (s0 : S0) :
    ((headS x p).1 ≠ k → m_ticketlineref04_Bytes_l1 N s0 (m + 1) x p k th n v key val old tk = s0 (x + 1) k th n v key val old tk) ∧
    ((headS x p).1 = k → ¬ hit k th n v tk x p → m_ticketlineref04_Bytes_l1 N s0 (m + 1) x p k th n v key val old tk = m_ticketlineref04_Bytes_l1 N s0 m x (p + 1) k th n v key val old tk) ∧
    (hit k th n v tk x p → Found k th n v key val old tk N x p (m_ticketlineref04_Bytes_l1 N s0 (m + 1) x p k th n v key val old tk)) := by
  have hH := ref04_head hx hp
  have w1 : IntKind.i64.wrap (x + 1) = x + 1 := wI (by omega) (by omega)
  have w2 : IntKind.i64.wrap (p + 1) = p + 1 := wI (by omega) (by omega)
  have w3 : IntKind.u8.wrap x = x := wB hx.1 hx.2
  have w4 : IntKind.u8.wrap p = p := wB hp.1 hp.2
  have w5 : IntKind.i64.wrap (Int.tdiv x 8) = x / 8 := by rw [Int.tdiv_eq_ediv_of_nonneg hx.1, wI (by omega) (by omega)]
  have hz := head_zero x p
  have hT := ref04_threaded (headS x p).1
  have hne := ref04_needs v
  unfold hit
  generalize headS x p = h at *
  obtain ⟨h1, h2, h3, h4, h5, h6, h7, h8, hu⟩ := h
  dsimp only at *
  subst hz
  refine ⟨fun c => ?_, fun c d => ?_, fun d => ?_⟩
  · have c' : (h1 != k) = true := by simp [c]
    simp only [m_ticketlineref04_Bytes_l1, m_ticketlineref04_Bytes_l1_b, hp.2, decide_true, if_true, hH, Option.bind_some, c', w1]
  · subst c
    have e0 : ∀ y : Int, (y != y) = false := fun y => by simp
    simp only [m_ticketlineref04_Bytes_l1, m_ticketlineref04_Bytes_l1_b, hp.2, decide_true, if_true, hH, Option.bind_some, e0, Bool.false_eq_true, if_false, hT, w2, w3, w4, w5, hne]
    by_cases ct : h1 = 1 ∨ h1 = 3
    · rw [if_pos ct] at d
      simp only [decide_eq_true ct, if_true]
      by_cases c1 : x / 8 = th
      · by_cases c2 : h4 = v
        · by_cases c3 : h8 = tk
          · by_cases c4 : h1 = 3
            · exact absurd ⟨rfl, c1, c2, c3, fun h => absurd c4 h⟩ d
            · by_cases c5 : h3 = n
              · exact absurd ⟨rfl, c1, c2, c3, fun _ => c5⟩ d
              · have f1 : (x / 8 != th) = false := by simp [c1]
                have f2 : (h4 != v) = false := by simp [c2]
                have f3 : (h8 != tk) = false := by simp [c3]
                have f4 : (h1 != 3) = true := by simp [c4]
                have f5 : (h3 != n) = true := by simp [c5]
                simp only [f1, f2, f3, f4, f5, Bool.false_eq_true, if_false, if_true]
          · have f1 : (x / 8 != th) = false := by simp [c1]
            have f2 : (h4 != v) = false := by simp [c2]
            have f3 : (h8 != tk) = true := by simp [c3]
            simp only [f1, f2, f3, Bool.false_eq_true, if_false, if_true]
        · have f1 : (x / 8 != th) = false := by simp [c1]
          have f2 : (h4 != v) = true := by simp [c2]
          simp only [f1, f2, Bool.false_eq_true, if_false, if_true]
      · have f1 : (x / 8 != th) = true := by simp [c1]
        simp only [f1, if_true]
    · rw [if_neg ct] at d
      have c4 : h1 ≠ 3 := fun h => ct (Or.inr h)
      simp only [decide_eq_false ct, Bool.false_eq_true, if_false]
      by_cases c1 : th = 0
      · by_cases c2 : h4 = v
        · by_cases c3 : h8 = tk
          · by_cases c5 : h3 = n
            · exact absurd ⟨rfl, c1, c2, c3, fun _ => c5⟩ d
            · have f1 : ((0 : Int) != th) = false := by simp [c1]
              have f2 : (h4 != v) = false := by simp [c2]
              have f3 : (h8 != tk) = false := by simp [c3]
              have f4 : (h1 != 3) = true := by simp [c4]
              have f5 : (h3 != n) = true := by simp [c5]
              simp only [f1, f2, f3, f4, f5, Bool.false_eq_true, if_false, if_true]
          · have f1 : ((0 : Int) != th) = false := by simp [c1]
            have f2 : (h4 != v) = false := by simp [c2]
            have f3 : (h8 != tk) = true := by simp [c3]
            simp only [f1, f2, f3, Bool.false_eq_true, if_false, if_true]
        · have f1 : ((0 : Int) != th) = false := by simp [c1]
          have f2 : (h4 != v) = true := by simp [c2]
          simp only [f1, f2, Bool.false_eq_true, if_false, if_true]
      · have f1 : ((0 : Int) != th) = true := by simp; omega
        simp only [f1, if_true]
  · obtain ⟨rfl, d1, rfl, rfl, d5⟩ := d
    have e0 : ∀ y : Int, (y != y) = false := fun y => by simp
    simp only [m_ticketlineref04_Bytes_l1, m_ticketlineref04_Bytes_l1_b, hp.2, decide_true, if_true, hH, Option.bind_some, e0, Bool.false_eq_true, if_false, hT, w2, w3, w4, w5, hne]
    by_cases ct : h1 = 1 ∨ h1 = 3
    · rw [if_pos ct] at d1
      subst d1
      simp only [decide_eq_true ct, if_true, e0, Bool.false_eq_true, if_false]
      by_cases c4 : h1 = 3
      · have f4 : (h1 != 3) = false := by simp [c4]
        simp only [f4, Bool.false_eq_true, if_false]
        exact ⟨_, _, _, _, _, _, _, _, _, rfl⟩
      · have f4 : (h1 != 3) = true := by simp [c4]
        have := d5 c4
        subst this
        simp only [f4, if_true, e0, Bool.false_eq_true, if_false]
        exact ⟨_, _, _, _, _, _, _, _, _, rfl⟩
    · rw [if_neg ct] at d1
      subst d1
      have c4 : h1 ≠ 3 := fun h => ct (Or.inr h)
      have := d5 c4
      subst this
      have f4 : (h1 != 3) = true := by simp [c4]
      simp only [decide_eq_false ct, if_true, f4, e0, Bool.false_eq_true, if_false]
      exact ⟨_, _, _, _, _, _, _, _, _, rfl⟩
theorem inner_none {x : Nat} (hx : x < 256) (N : Nat) (s0 : S0) : ∀ (m p q : Nat), p + m = 256 → m < q → (∀ j : Nat, p ≤ j → j < 256 → ¬ hit k th n v tk x j) →
    m_ticketlineref04_Bytes_l1 N s0 q x p k th n v key val old tk = s0 ((x + 1 : Nat) : Int) k th n v key val old tk := by
  intro m
  induction m with
  | zero =>
    intro p q hp hq h
    obtain ⟨q, rfl⟩ : ∃ a, q = a + 1 := ⟨q - 1, by omega⟩
    have w1 : IntKind.i64.wrap ((x : Int) + 1) = ((x + 1 : Nat) : Int) := by rw [wI (by omega) (by omega)]; omega
    simp only [m_ticketlineref04_Bytes_l1, m_ticketlineref04_Bytes_l1_b, show ¬ (p : Int) < 256 by omega, decide_false, Bool.false_eq_true, if_false, w1]
  | succ m ih =>
    intro p q hp hq h
    obtain ⟨q, rfl⟩ : ∃ a, q = a + 1 := ⟨q - 1, by omega⟩
    obtain ⟨i1, i2, _⟩ := inner_step k th n v key val old tk (x := x) (p := p) (by omega) (by omega) N q s0
    by_cases c : (headS (x : Int) (p : Int)).1 = k
    · rw [i2 c (h p (by omega) (by omega))]
      exact ih (p + 1) q (by omega) (by omega) fun j h1 h2 => h j (by omega) h2
    · rw [i1 c]; rfl
theorem inner_hit {x p0 : Nat} (hx : x < 256) (hp0 : p0 < 256) (hh : hit k th n v tk x p0) (N : Nat) (s0 : S0) : ∀ (m p q : Nat), p + m = p0 → m < q → (∀ j : Nat, p ≤ j → j < p0 → ¬ hit k th n v tk x j) →
    Found k th n v key val old tk N x p0 (m_ticketlineref04_Bytes_l1 N s0 q x p k th n v key val old tk) := by
  intro m
  induction m with
  | zero =>
    intro p q hp hq h
    obtain ⟨q, rfl⟩ : ∃ a, q = a + 1 := ⟨q - 1, by omega⟩
    have : p = p0 := by omega
    subst this
    exact (inner_step k th n v key val old tk (x := x) (p := p) (by omega) (by omega) N q s0).2.2 hh
  | succ m ih =>
    intro p q hp hq h
    obtain ⟨q, rfl⟩ : ∃ a, q = a + 1 := ⟨q - 1, by omega⟩
    obtain ⟨_, i2, _⟩ := inner_step k th n v key val old tk (x := x) (p := p) (by omega) (by omega) N q s0
    have c : (headS (x : Int) (p : Int)).1 = k := by rw [head_kind _ _ (p0 : Int)]; exact hh.1
    rw [i2 c (h p (by omega) (by omega))]
    exact ih (p + 1) q (by omega) (by omega) fun j h1 h2 => h j (by omega) h2
theorem outer_none (N : Nat) (hN : 300 < N) : ∀ (m x q : Nat), x + m = 256 → m < q → (∀ i j : Nat, x ≤ i → i < 256 → j < 256 → ¬ hit k th n v tk i j) →
    m_ticketlineref04_Bytes_l0 N q x k th n v key val old tk = some ([], false) := by
  intro m
  induction m with
  | zero =>
    intro x q hx hq h
    obtain ⟨q, rfl⟩ : ∃ a, q = a + 1 := ⟨q - 1, by omega⟩
    simp only [m_ticketlineref04_Bytes_l0, m_ticketlineref04_Bytes_l0_b, show ¬ (x : Int) < 256 by omega, decide_false, Bool.false_eq_true, if_false]
  | succ m ih =>
    intro x q hx hq h
    obtain ⟨q, rfl⟩ : ∃ a, q = a + 1 := ⟨q - 1, by omega⟩
    have L := inner_none k th n v key val old tk (x := x) (by omega) N (m_ticketlineref04_Bytes_l0 N q) 256 0 N (by omega) (by omega) fun j h1 h2 => h x j (by omega) (by omega) h2
    have L : m_ticketlineref04_Bytes_l1 N (m_ticketlineref04_Bytes_l0 N q) N x 0 k th n v key val old tk = _ := L
    simp only [m_ticketlineref04_Bytes_l0, m_ticketlineref04_Bytes_l0_b, show (x : Int) < 256 by omega, decide_true, if_true, L]
    exact ih (x + 1) q (by omega) (by omega) fun i j h1 h2 h3 => h i j (by omega) h2 h3
theorem outer_hit {x0 p0 : Nat} (hx0 : x0 < 256) (hp0 : p0 < 256) (hh : hit k th n v tk x0 p0) (hf : ∀ j : Nat, j < p0 → ¬ hit k th n v tk x0 j) (N : Nat) (hN : 300 < N) : ∀ (m x q : Nat), x + m = x0 → m < q → (∀ i j : Nat, x ≤ i → i < x0 → j < 256 → ¬ hit k th n v tk i j) →
    Found k th n v key val old tk N x0 p0 (m_ticketlineref04_Bytes_l0 N q x k th n v key val old tk) := by
  intro m
  induction m with
  | zero =>
    intro x q hx hq h
    obtain ⟨q, rfl⟩ : ∃ a, q = a + 1 := ⟨q - 1, by omega⟩
    have : x = x0 := by omega
    subst this
    have L := inner_hit k th n v key val old tk hx0 hp0 hh N (m_ticketlineref04_Bytes_l0 N q) p0 0 N (by omega) (by omega) fun j h1 h2 => hf j h2
    have L : Found k th n v key val old tk N x p0 (m_ticketlineref04_Bytes_l1 N (m_ticketlineref04_Bytes_l0 N q) N x 0 k th n v key val old tk) := L
    simp only [m_ticketlineref04_Bytes_l0, m_ticketlineref04_Bytes_l0_b, show (x : Int) < 256 by omega, decide_true, if_true]
    exact L
  | succ m ih =>
    intro x q hx hq h
    obtain ⟨q, rfl⟩ : ∃ a, q = a + 1 := ⟨q - 1, by omega⟩
    have L := inner_none k th n v key val old tk (x := x) (by omega) N (m_ticketlineref04_Bytes_l0 N q) 256 0 N (by omega) (by omega) fun j h1 h2 => h x j (by omega) (by omega) h2
    have L : m_ticketlineref04_Bytes_l1 N (m_ticketlineref04_Bytes_l0 N q) N x 0 k th n v key val old tk = _ := L
    simp only [m_ticketlineref04_Bytes_l0, m_ticketlineref04_Bytes_l0_b, show (x : Int) < 256 by omega, decide_true, if_true, L]
    exact ih (x + 1) q (by omega) (by omega) fun i j h1 h2 h3 => h i j (by omega) h2 h3
theorem bytes_none (h : ∀ i j : Nat, i < 256 → j < 256 → ¬ hit k th n v tk i j) : m_ticketlineref04_Bytes (k, th, n, v, key, val, old, tk, ()) = some ([], false) :=
  outer_none k th n v key val old tk FUEL (by have := FUEL_big; omega) 256 0 FUEL (by omega) (by have := FUEL_big; omega) fun i j _ h2 h3 => h i j h2 h3
theorem bytes_found {x0 p0 : Nat} (hx0 : x0 < 256) (hp0 : p0 < 256) (hh : hit k th n v tk x0 p0) (hf : ∀ j : Nat, j < p0 → ¬ hit k th n v tk x0 j) (h : ∀ i j : Nat, i < x0 → j < 256 → ¬ hit k th n v tk i j) :
    Found k th n v key val old tk FUEL x0 p0 (m_ticketlineref04_Bytes (k, th, n, v, key, val, old, tk, ())) :=
  outer_hit k th n v key val old tk hx0 hp0 hh hf FUEL (by have := FUEL_big; omega) x0 0 FUEL (by omega) (by have := FUEL_big; omega) fun i j _ h2 h3 => h i j h2 h3
end
theorem head_start {x p : Int} (h : 5 ≤ x % 8) : headS x p = (3, 0, 0, p % 8 + 1, eB, eB, eB, p / 8, ()) := by unfold headS; rw [if_neg (by omega), if_neg (by omega), if_pos h]
theorem head_tick {x p : Int} (h : x % 8 = 3) : headS x p = (2, 0, p, 0, eB, eB, eB, 0, ()) := by unfold headS; rw [if_pos h]
theorem head_round {x p : Int} (h : x % 8 = 4) : headS x p = (4, 0, p % 8 + 1, 0, eB, eB, eB, 0, ()) := by unfold headS; rw [if_neg (by omega), if_pos h]
theorem head_pick {x p : Int} (h : x % 8 < 3) : headS x p = (1, 0, p % 16 + 1, 0, eB, eB, eB, 0, ()) := by unfold headS; rw [if_neg (by omega), if_neg (by omega), if_neg (by omega)]
theorem hit_cases {k th n v tk : Int} {x p : Nat} (h : hit k th n v tk x p) :
    (k = 3 ∧ 5 ≤ (x : Int) % 8 ∧ (x : Int) / 8 = th ∧ (p : Int) % 8 + 1 = v ∧ (p : Int) / 8 = tk) ∨ (k = 2 ∧ (x : Int) % 8 = 3 ∧ th = 0 ∧ v = 0 ∧ tk = 0 ∧ n = p) ∨
    (k = 4 ∧ (x : Int) % 8 = 4 ∧ th = 0 ∧ v = 0 ∧ tk = 0 ∧ n = (p : Int) % 8 + 1) ∨ (k = 1 ∧ (x : Int) % 8 < 3 ∧ (x : Int) / 8 = th ∧ v = 0 ∧ tk = 0 ∧ n = (p : Int) % 16 + 1) := by
  unfold hit at h
  have hk : (5 ≤ (x : Int) % 8) ∨ (x : Int) % 8 = 3 ∨ (x : Int) % 8 = 4 ∨ (x : Int) % 8 < 3 := by omega
  rcases hk with c | c | c | c
  · rw [head_start c] at h
    dsimp only at h
    obtain ⟨rfl, h2, h3, h4, h5⟩ := h
    rw [if_pos (by decide)] at h2
    exact Or.inl ⟨rfl, c, h2, h3, h4⟩
  · rw [head_tick c] at h
    dsimp only at h
    obtain ⟨rfl, h2, h3, h4, h5⟩ := h
    rw [if_neg (by decide)] at h2
    exact Or.inr (Or.inl ⟨rfl, c, h2, h3.symm, h4.symm, (h5 (by decide)).symm⟩)
  · rw [head_round c] at h
    dsimp only at h
    obtain ⟨rfl, h2, h3, h4, h5⟩ := h
    rw [if_neg (by decide)] at h2
    exact Or.inr (Or.inr (Or.inl ⟨rfl, c, h2, h3.symm, h4.symm, (h5 (by decide)).symm⟩))
  · rw [head_pick c] at h
    dsimp only at h
    obtain ⟨rfl, h2, h3, h4, h5⟩ := h
    rw [if_pos (by decide)] at h2
    exact Or.inr (Or.inr (Or.inr ⟨rfl, c, h2, h3.symm, h4.symm, (h5 (by decide)).symm⟩))
theorem ref04_Bytes (k th n v : Int) (key val old : ByteArray) (tk : Int) : Says (m_ticketlineref04_Bytes (k, th, n, v, key, val, old, tk, ())) (encS k th n v key val old tk) := by
  unfold encS
  have hF := FUEL_big
  by_cases k3 : k = 3
  · subst k3
    rw [if_pos rfl]
    by_cases c : 0 ≤ th ∧ th < 32 ∧ 0 ≤ tk ∧ tk < 32 ∧ 1 ≤ v ∧ v ≤ 8
    · rw [if_pos c]
      have hx : (((8 * th + 5).toNat : Nat) : Int) = 8 * th + 5 := by omega
      have hp : (((v - 1 + 8 * tk).toNat : Nat) : Int) = v - 1 + 8 * tk := by omega
      obtain ⟨s0, s1, a2, a3, a4, z1, z2, z3, a5, e⟩ := bytes_found 3 th n v key val old tk (x0 := (8 * th + 5).toNat) (p0 := (v - 1 + 8 * tk).toNat) (by omega) (by omega)
        (by rw [hx, hp]; unfold hit; rw [head_start (by omega)]; exact ⟨rfl, by rw [if_pos (by decide)]; omega, by dsimp only; omega, by dsimp only; omega, fun h => absurd rfl h⟩)
        (fun j hj h => by rcases hit_cases h with h | h | h | h <;> omega)
        (fun i j hi hj h => by rcases hit_cases h with h | h | h | h <;> omega)
      rw [e, hx, hp]
      exact fin_req FUEL FUEL (by omega) s0 s1 th n v key val old tk a2 a3 a4 z1 z2 z3 a5 ⟨c.1, c.2.1⟩ ⟨c.2.2.1, c.2.2.2.1⟩ ⟨c.2.2.2.2.1, c.2.2.2.2.2⟩
    · rw [if_neg c, bytes_none 3 th n v key val old tk fun i j hi hj h => c (by rcases hit_cases h with h | h | h | h <;> omega)]
      exact says_none _
  rw [if_neg k3]
  -- the other kinds end alike
  have E : ∀ {x0 p0 : Nat} {C : Prop} [Decidable C], x0 < 256 → p0 < 256 → hit k th n v tk x0 p0 → (∀ j : Nat, j < p0 → ¬ hit k th n v tk x0 j) → (∀ i j : Nat, i < x0 → j < 256 → ¬ hit k th n v tk i j) →
      ((nextS [(x0 : Int), (p0 : Int)] 64).1 = (k, th, n, v, key, val, old, tk, ()) ∧ (nextS [(x0 : Int), (p0 : Int)] 64).2 = 2 ↔ C) → Says (m_ticketlineref04_Bytes (k, th, n, v, key, val, old, tk, ())) (if C then some [(x0 : Int), (p0 : Int)] else none) := by
    intro x0 p0 C _ h1 h2 h3 h4 h5 h6
    obtain ⟨s0, s1, a2, a3, a4, z1, z2, z3, a5, e⟩ := bytes_found k th n v key val old tk h1 h2 h3 h4 h5
    rw [e, fin_other (RB2 (by omega) (by omega)) FUEL FUEL (by omega) s0 s1 _ k th n v key val old tk k a2 a3 a4 z1 z2 z3 a5 k3]
    have h6 : (nextS [(x0 : Int), (p0 : Int)] 64).1 = (k, th, n, v, key, val, old, tk, ()) ∧ (nextS [(x0 : Int), (p0 : Int)] 64).2 = [(x0 : Int), (p0 : Int)].length ↔ C := h6
    by_cases c : C
    · rw [if_pos c, decide_eq_true (h6.2 c)]; exact says_some _
    · rw [if_neg c, decide_eq_false (fun d => c (h6.1 d))]; exact says_none _
  have W : ∀ (X : Option (List Int)), (¬ (v = 0 ∧ tk = 0) → X = none) → ((v = 0 ∧ tk = 0) → X = if key = eB ∧ val = eB ∧ old = eB then (if k = 1 then (if 0 ≤ th ∧ th < 32 ∧ 1 ≤ n ∧ n ≤ 16 then some [8 * th, n - 1] else none)
    else if k = 2 then (if th = 0 ∧ 0 ≤ n ∧ n < 256 then some [3, n] else none)
    else if k = 4 then (if th = 0 ∧ 1 ≤ n ∧ n ≤ 8 then some [4, n - 1] else none)
    else none) else none) → Says (m_ticketlineref04_Bytes (k, th, n, v, key, val, old, tk, ())) X := by
    intro X hX1 hX2
    by_cases c : v = 0 ∧ tk = 0
    case neg =>
      rw [hX1 c, bytes_none k th n v key val old tk fun i j hi hj h => c (by rcases hit_cases h with h | h | h | h <;> omega)]
      exact says_none _
    rw [hX2 c]
    obtain ⟨rfl, rfl⟩ := c
    by_cases k1 : k = 1
    · subst k1
      simp only [if_true]
      by_cases d : 0 ≤ th ∧ th < 32 ∧ 1 ≤ n ∧ n ≤ 16
      · have hx : (((8 * th).toNat : Nat) : Int) = 8 * th := by omega
        have hp : (((n - 1).toNat : Nat) : Int) = n - 1 := by omega
        have hs : nextS [8 * th, n - 1] 64 = ((1, th, n, 0, eB, eB, eB, 0, ()), 2) := by
          unfold nextS opS
          rw [at_zero, at_cons, at_zero, if_neg (by omega), if_neg (by omega), if_neg (by omega), show 8 * th / 8 % 64 = th by omega, show (n - 1) % 16 + 1 = n by omega]
        have := E (x0 := (8 * th).toNat) (p0 := (n - 1).toNat) (C := key = eB ∧ val = eB ∧ old = eB) (by omega) (by omega)
          (by rw [hx, hp]; unfold hit; rw [head_pick (by omega)]; exact ⟨rfl, by rw [if_pos (by decide)]; omega, rfl, rfl, fun _ => by dsimp only; omega⟩)
          (fun j hj h => by rcases hit_cases h with h | h | h | h <;> omega)
          (fun i j hi hj h => by rcases hit_cases h with h | h | h | h <;> omega)
          (by rw [hx, hp, hs]; simp only [Prod.mk.injEq, true_and, and_true]; exact ⟨fun ⟨a, b, c⟩ => ⟨a.symm, b.symm, c.symm⟩, fun ⟨a, b, c⟩ => ⟨a.symm, b.symm, c.symm⟩⟩)
        rw [hx, hp] at this
        rw [if_pos d]; exact this
      · rw [if_neg d, ite_self, bytes_none 1 th n 0 key val old 0 fun i j hi hj h => d (by rcases hit_cases h with h | h | h | h <;> omega)]
        exact says_none _
    rw [if_neg k1]
    by_cases k2 : k = 2
    · subst k2
      simp only [if_true]
      by_cases d : th = 0 ∧ 0 ≤ n ∧ n < 256
      · have hp : ((n.toNat : Nat) : Int) = n := by omega
        have hs : nextS [3, n] 64 = ((2, 0, n, 0, eB, eB, eB, 0, ()), 2) := by
          unfold nextS opS
          rw [at_zero, at_cons, at_zero, if_pos (by decide)]
        have := E (x0 := 3) (p0 := n.toNat) (C := key = eB ∧ val = eB ∧ old = eB) (by omega) (by omega)
          (by rw [hp]; unfold hit; rw [head_tick (by decide)]; exact ⟨rfl, by rw [if_neg (by decide)]; exact d.1, rfl, rfl, fun _ => rfl⟩)
          (fun j hj h => by rcases hit_cases h with h | h | h | h <;> omega)
          (fun i j hi hj h => by rcases hit_cases h with h | h | h | h <;> omega)
          (by
            rw [hp]
            have hs : nextS [((3 : Nat) : Int), n] 64 = ((2, 0, n, 0, eB, eB, eB, 0, ()), 2) := hs
            rw [hs, d.1]; simp only [Prod.mk.injEq, true_and, and_true]; exact ⟨fun ⟨a, b, c⟩ => ⟨a.symm, b.symm, c.symm⟩, fun ⟨a, b, c⟩ => ⟨a.symm, b.symm, c.symm⟩⟩)
        rw [hp] at this
        rw [if_pos d]; exact this
      · rw [if_neg d, ite_self, bytes_none 2 th n 0 key val old 0 fun i j hi hj h => d (by rcases hit_cases h with h | h | h | h <;> omega)]
        exact says_none _
    rw [if_neg k2]
    by_cases k4 : k = 4
    · subst k4
      simp only [if_true]
      by_cases d : th = 0 ∧ 1 ≤ n ∧ n ≤ 8
      · have hp : (((n - 1).toNat : Nat) : Int) = n - 1 := by omega
        have hs : nextS [4, n - 1] 64 = ((4, 0, n, 0, eB, eB, eB, 0, ()), 2) := by
          unfold nextS opS
          rw [at_zero, at_cons, at_zero, if_neg (by decide), if_pos (by decide), show (n - 1) % 8 + 1 = n by omega]
        have := E (x0 := 4) (p0 := (n - 1).toNat) (C := key = eB ∧ val = eB ∧ old = eB) (by omega) (by omega)
          (by rw [hp]; unfold hit; rw [head_round (by decide)]; exact ⟨rfl, by rw [if_neg (by decide)]; exact d.1, rfl, rfl, fun _ => by dsimp only; omega⟩)
          (fun j hj h => by rcases hit_cases h with h | h | h | h <;> omega)
          (fun i j hi hj h => by rcases hit_cases h with h | h | h | h <;> omega)
          (by
            rw [hp]
            have hs : nextS [((4 : Nat) : Int), n - 1] 64 = ((4, 0, n, 0, eB, eB, eB, 0, ()), 2) := hs
            rw [hs, d.1]; simp only [Prod.mk.injEq, true_and, and_true]; exact ⟨fun ⟨a, b, c⟩ => ⟨a.symm, b.symm, c.symm⟩, fun ⟨a, b, c⟩ => ⟨a.symm, b.symm, c.symm⟩⟩)
        rw [hp] at this
        rw [if_pos d]; exact this
      · rw [if_neg d, ite_self, bytes_none 4 th n 0 key val old 0 fun i j hi hj h => d (by rcases hit_cases h with h | h | h | h <;> omega)]
        exact says_none _
    · rw [if_neg k4, ite_self, bytes_none k th n 0 key val old 0 fun i j hi hj h => by rcases hit_cases h with h | h | h | h <;> omega]
      exact says_none _
  refine W _ (fun h => by rw [if_neg (fun h' => h ⟨h'.1, h'.2.2.2.2⟩)]) fun h => ?_
  by_cases c : key = eB ∧ val = eB ∧ old = eB
  · rw [if_pos c, if_pos ⟨h.1, c.1, c.2.1, c.2.2, h.2⟩]
  · rw [if_neg c, if_neg (fun h' => c ⟨h'.2.1, h'.2.2.1, h'.2.2.2.1⟩)]
end Go.Ev.L.T4
