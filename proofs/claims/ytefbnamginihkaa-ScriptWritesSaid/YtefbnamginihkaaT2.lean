/- Seat 04: the operation with which bytes begin. -/
import Derived.Test.YtefbnamginihkaaT1
set_option linter.unusedVariables false
set_option linter.unusedSimpArgs false
set_option maxRecDepth 10000
namespace Go.Ev.L.T4
open Go Go.Ev Go.Ev.M Go.Ev.L

def RB (b : List Int) : Prop := ∀ x, x ∈ b → 0 ≤ x ∧ x < 256
def at' (b : List Int) (i : Nat) : Int := b.getD i 0
theorem RB.at {b : List Int} (h : RB b) (i : Nat) : 0 ≤ at' b i ∧ at' b i < 256 := by
  unfold at'
  rw [List.getD_eq_getElem?_getD]
  cases e : b[i]? with
  | none => simp
  | some v => exact h v (List.mem_of_getElem? e)
theorem at_none {b : List Int} {i : Nat} (h : b.length ≤ i) : at' b i = 0 := by unfold at'; rw [List.getD_eq_getElem?_getD, List.getElem?_eq_none h]; rfl
theorem rd_at (b : List Int) (i : Nat) : rd (.int .u8) b (i : Int) = at' b i := by
  show b.getD (i : Int).toNat 0 = _
  rw [Int.toNat_natCast]; rfl
def startS (th p a c d : Int) : Op4 × Nat :=
  let v := p % 8 + 1; let k := p / 8
  if v = 1 ∨ v = 4 then ((3, th, 0, v, keyS a, eB, eB, k, ()), 3)
  else if v = 2 ∨ v = 3 then ((3, th, 0, v, keyS a, valS c, eB, k, ()), 4)
  else if v = 5 then ((3, th, 0, v, keyS a, valS d, valS c, k, ()), 5)
  else if v = 6 then ((3, th, c % 32 + 1, v, keyS a, eB, eB, k, ()), 4)
  else ((3, th, 0, v, eB, eB, eB, k, ()), 2)
def opS (t x p a c d : Int) : Op4 × Nat :=
  if x % 8 = 3 then ((2, 0, p, 0, eB, eB, eB, 0, ()), 2)
  else if x % 8 = 4 then ((4, 0, p % 8 + 1, 0, eB, eB, eB, 0, ()), 2)
  else if 5 ≤ x % 8 then startS (x / 8 % t) p a c d
  else ((1, x / 8 % t, p % 16 + 1, 0, eB, eB, eB, 0, ()), 2)
def nextS (b : List Int) (t : Int) : Op4 × Nat := opS t (at' b 0) (at' b 1) (at' b 2) (at' b 3) (at' b 4)
theorem w1' : IntKind.i64.wrap 1 = 1 := by decide
theorem w2' : IntKind.i64.wrap 2 = 2 := by decide
theorem w3' : IntKind.i64.wrap 3 = 3 := by decide
theorem w4' : IntKind.i64.wrap 4 = 4 := by decide
theorem w5' : IntKind.i64.wrap 5 = 5 := by decide
theorem next_l5 {b : List Int} (hb : RB b) (N : Nat) (j1 j2 j3 j4 : Int) (s1 s2 s3 : ByteArray) (j5 : Int) (th p : Int) (hp : 0 ≤ p ∧ p < 256) :
    m_script_Next_l5 N b j1 j2 j3 j4 s1 s2 s3 j5 b 2 3 th 0 (p % 8 + 1) eB eB eB (p / 8) = some ((startS th p (at' b 2) (at' b 3) (at' b 4)).1, mn ((startS th p (at' b 2) (at' b 3) (at' b 4)).2 : Int) (b.length : Int), 0) := by
  have k0 := script_Key (n := 0) (by omega)
  have v0 := script_Value (n := 0) (by omega)
  have k2 := script_Key (hb.at 2)
  have v3 := script_Value (hb.at 3)
  have v4 := script_Value (hb.at 4)
  have r2 : rd (.int .u8) b (2 : Int) = at' b 2 := rd_at b 2
  have r3 : rd (.int .u8) b (3 : Int) = at' b 3 := rd_at b 3
  have r4 : rd (.int .u8) b (4 : Int) = at' b 4 := rd_at b 4
  have m3 : IntKind.i64.wrap (at' b 3) = at' b 3 := by have := hb.at 3; exact wI (by omega) (by omega)
  have m4 : IntKind.i64.wrap (Int.tmod (at' b 3) 32 + 1) = at' b 3 % 32 + 1 := by have := hb.at 3; rw [Int.tmod_eq_emod_of_nonneg (by omega), wI (by omega) (by omega)]
  have m5 : IntKind.i64.wrap (Int.tmod 0 32 + 1) = 0 % 32 + 1 := by decide
  have hv : p % 8 + 1 = 1 ∨ p % 8 + 1 = 2 ∨ p % 8 + 1 = 3 ∨ p % 8 + 1 = 4 ∨ p % 8 + 1 = 5 ∨ p % 8 + 1 = 6 ∨ p % 8 + 1 = 7 ∨ p % 8 + 1 = 8 := by omega
  unfold startS
  generalize p % 8 + 1 = v at hv
  generalize p / 8 = tk
  unfold m_script_Next_l5 m_script_Next_l5_b m_script_Next_l4 m_script_Next_l4_b
  have hl : b.length ≤ 2 ∨ b.length = 3 ∨ b.length = 4 ∨ 5 ≤ b.length := by omega
  rcases hl with h | h | h | h
  · have c3 : ((b.length : Int) < (3 : Int)) := by omega
    have c4 : ((b.length : Int) < (4 : Int)) := by omega
    have c5 : ((b.length : Int) < (5 : Int)) := by omega
    have a2 : at' b 2 = 0 := at_none (by omega)
    have a3 : at' b 3 = 0 := at_none (by omega)
    have a4 : at' b 4 = 0 := at_none (by omega)
    rcases hv with rfl | rfl | rfl | rfl | rfl | rfl | rfl | rfl <;> simp [w1', w2', w3', w4', w5', c3, c4, c5, k0, v0, a2, a3, a4, m5, eB] <;> rfl
  · have c3 : ¬ ((b.length : Int) < (3 : Int)) := by omega
    have c4 : ((b.length : Int) < (4 : Int)) := by omega
    have c5 : ((b.length : Int) < (5 : Int)) := by omega
    have d2 : (2 : Int) < (b.length : Int) := by omega
    have a3 : at' b 3 = 0 := at_none (by omega)
    have a4 : at' b 4 = 0 := at_none (by omega)
    rcases hv with rfl | rfl | rfl | rfl | rfl | rfl | rfl | rfl <;> simp [w1', w2', w3', w4', w5', c3, c4, c5, d2, k2, v0, r2, a3, a4, m5, eB] <;> rfl
  · have c3 : ¬ ((b.length : Int) < (3 : Int)) := by omega
    have c4 : ¬ ((b.length : Int) < (4 : Int)) := by omega
    have c5 : ((b.length : Int) < (5 : Int)) := by omega
    have d2 : (2 : Int) < (b.length : Int) := by omega
    have d3 : (3 : Int) < (b.length : Int) := by omega
    have a4 : at' b 4 = 0 := at_none (by omega)
    rcases hv with rfl | rfl | rfl | rfl | rfl | rfl | rfl | rfl <;> simp [w1', w2', w3', w4', w5', c3, c4, c5, d2, d3, k2, v0, v3, r2, r3, a4, m3, m4, eB] <;> rfl
  · have c3 : ¬ ((b.length : Int) < (3 : Int)) := by omega
    have c4 : ¬ ((b.length : Int) < (4 : Int)) := by omega
    have c5 : ¬ ((b.length : Int) < (5 : Int)) := by omega
    have d2 : (2 : Int) < (b.length : Int) := by omega
    have d3 : (3 : Int) < (b.length : Int) := by omega
    have d4 : (4 : Int) < (b.length : Int) := by omega
    rcases hv with rfl | rfl | rfl | rfl | rfl | rfl | rfl | rfl <;> simp [w1', w2', w3', w4', w5', c3, c4, c5, d2, d3, d4, k2, v3, v4, r2, r3, r4, m3, m4, eB] <;> rfl

theorem next_l3 {b : List Int} (hb : RB b) (N : Nat) (j1 j2 j3 j4 : Int) (s1 s2 s3 : ByteArray) (j5 : Int) (a1 a2 a3 a4 : Int) (z1 z2 z3 : ByteArray) (a5 : Int) (t x p : Int) (hp : 0 ≤ p ∧ p < 256) (hx : 0 ≤ x ∧ x < 256) (ht : 1 ≤ t) :
    m_script_Next_l3 N b (x / 8 % t) p (x % 8) j1 j2 j3 j4 s1 s2 s3 j5 b 2 a1 a2 a3 a4 z1 z2 z3 a5 = some ((opS t x p (at' b 2) (at' b 3) (at' b 4)).1, mn ((opS t x p (at' b 2) (at' b 3) (at' b 4)).2 : Int) (b.length : Int), 0) := by
  have L5 := next_l5 hb N j1 j2 j3 j4 s1 s2 s3 j5 (x / 8 % t) p hp
  have e1 : IntKind.i64.wrap (Int.tmod p 8 + 1) = p % 8 + 1 := by rw [Int.tmod_eq_emod_of_nonneg (by omega), wI (by omega) (by omega)]
  have e2 : IntKind.i64.wrap (Int.tmod p 16 + 1) = p % 16 + 1 := by rw [Int.tmod_eq_emod_of_nonneg (by omega), wI (by omega) (by omega)]
  have e3 : IntKind.i64.wrap (Int.tdiv p 8) = p / 8 := by rw [Int.tdiv_eq_ediv_of_nonneg (by omega), wI (by omega) (by omega)]
  have hk : x % 8 = 0 ∨ x % 8 = 1 ∨ x % 8 = 2 ∨ x % 8 = 3 ∨ x % 8 = 4 ∨ x % 8 = 5 ∨ x % 8 = 6 ∨ x % 8 = 7 := by omega
  unfold opS m_script_Next_l3 m_script_Next_l3_b m_script_Next_l4 m_script_Next_l4_b
  rw [e1, e2, e3]
  have L5 : m_script_Next_l5 N b j1 j2 j3 j4 s1 s2 s3 j5 b 2 3 (x / 8 % t) 0 (p % 8 + 1) (⟨#[]⟩ : ByteArray) (⟨#[]⟩ : ByteArray) (⟨#[]⟩ : ByteArray) (p / 8) = _ := L5
  rcases hk with h | h | h | h | h | h | h | h <;> rw [h] <;> simp [L5] <;> rfl
theorem script_Next {b : List Int} (hb : RB b) {t : Int} (ht : 1 ≤ t ∧ t ≤ 64) (h0 : b ≠ []) : m_script_Next b t = some ((nextS b t).1, mn ((nextS b t).2 : Int) (b.length : Int), 0) := by
  have hlen : 1 ≤ b.length := by cases b with | nil => exact absurd rfl h0 | cons a l => simp
  have hx := hb.at 0
  have hp := hb.at 1
  have r0 : rd (.int .u8) b (0 : Int) = at' b 0 := rd_at b 0
  have r1 : rd (.int .u8) b (1 : Int) = at' b 1 := rd_at b 1
  have eth : Int.tmod (IntKind.i64.wrap (IntKind.u8.wrap (Int.tdiv (at' b 0) 8))) t = at' b 0 / 8 % t := by
    rw [Int.tdiv_eq_ediv_of_nonneg hx.1, wB (by omega) (by omega), wI (by omega) (by omega), Int.tmod_eq_emod_of_nonneg (by omega)]
  have e8 : Int.tmod (at' b 0) 8 = at' b 0 % 8 := Int.tmod_eq_emod_of_nonneg hx.1
  have ep : IntKind.i64.wrap (at' b 1) = at' b 1 := wI (by omega) (by omega)
  have L3 := fun (N : Nat) (j1 j2 j3 j4 : Int) (s1 s2 s3 : ByteArray) (j5 : Int) (a1 a2 a3 a4 : Int) (z1 z2 z3 : ByteArray) (a5 : Int) => next_l3 hb N j1 j2 j3 j4 s1 s2 s3 j5 a1 a2 a3 a4 z1 z2 z3 a5 t (at' b 0) (at' b 1) hp hx ht.1
  unfold m_script_Next m_script_Next_a nextS
  have c1 : ((b.length : Int) == 0) = false := by simp; exact h0
  have c2 : ¬ (1 : Int) > (b.length : Int) := by omega
  simp only [show ¬ t < 1 by omega, show ¬ t > 64 by omega, decide_false, Bool.false_eq_true, if_false, c1, c2, show (0 : Int) < (b.length : Int) by omega, if_true, m_script_Next_l0, m_script_Next_l0_b, r0, ne_eq, show ¬ t = 0 by omega, not_false_eq_true, eth, show IntKind.i64.wrap ((1 : Int) + 1) = 2 by decide, show IntKind.i64.wrap ((2 : Int) - 1) = 1 by decide]
  by_cases d : (2 : Int) > (b.length : Int)
  · have a1 : at' b 1 = 0 := at_none (by omega)
    have L3 := L3 FUEL
    rw [a1] at L3 ⊢
    simp only [d, decide_true, if_true, m_script_Next_l1, m_script_Next_l1_b, m_script_Next_l2, m_script_Next_l2_b, e8, L3]
  · simp only [d, decide_false, Bool.false_eq_true, if_false, show (0 : Int) ≤ 1 by omega, show (1 : Int) < (b.length : Int) by omega, if_true, m_script_Next_l1, m_script_Next_l1_b, m_script_Next_l2, m_script_Next_l2_b, e8, r1, ep, L3]
theorem ref04_at {b : List Int} (hb : RB b) (i : Nat) : m_ticketlineref04_at b (i : Int) = some (at' b i) := by
  unfold m_ticketlineref04_at
  by_cases c : b.length ≤ i
  · simp only [show (i : Int) ≥ (b.length : Int) by omega, decide_true, if_true, at_none c]
  · have := hb.at i
    simp only [show ¬ (i : Int) ≥ (b.length : Int) by omega, decide_false, Bool.false_eq_true, if_false, Int.natCast_nonneg, show (i : Int) < (b.length : Int) by omega, if_true, rd_at, wI (x := at' b i) (by omega) (by omega)]
def headS (x p : Int) : Op4 :=
  if x % 8 = 3 then (2, 0, p, 0, eB, eB, eB, 0, ())
  else if x % 8 = 4 then (4, 0, p % 8 + 1, 0, eB, eB, eB, 0, ())
  else if 5 ≤ x % 8 then (3, 0, 0, p % 8 + 1, eB, eB, eB, p / 8, ())
  else (1, 0, p % 16 + 1, 0, eB, eB, eB, 0, ())
theorem ref04_head {x p : Int} (hx : 0 ≤ x ∧ x < 256) (hp : 0 ≤ p ∧ p < 256) : m_ticketlineref04_head x p = some (headS x p) := by
  have e1 : IntKind.i64.wrap (Int.tmod p 8 + 1) = p % 8 + 1 := by rw [Int.tmod_eq_emod_of_nonneg (by omega), wI (by omega) (by omega)]
  have e2 : IntKind.i64.wrap (Int.tmod p 16 + 1) = p % 16 + 1 := by rw [Int.tmod_eq_emod_of_nonneg (by omega), wI (by omega) (by omega)]
  have e3 : IntKind.i64.wrap (Int.tdiv p 8) = p / 8 := by rw [Int.tdiv_eq_ediv_of_nonneg (by omega), wI (by omega) (by omega)]
  have hk : x % 8 = 0 ∨ x % 8 = 1 ∨ x % 8 = 2 ∨ x % 8 = 3 ∨ x % 8 = 4 ∨ x % 8 = 5 ∨ x % 8 = 6 ∨ x % 8 = 7 := by omega
  unfold headS m_ticketlineref04_head
  rw [e1, e2, e3, Int.tmod_eq_emod_of_nonneg hx.1]
  rcases hk with h | h | h | h | h | h | h | h <;> rw [h] <;> simp <;> rfl
def needS (v : Int) : List Int := if v = 1 ∨ v = 4 then [107] else if v = 2 ∨ v = 3 then [107, 118] else if v = 5 then [107, 111, 118] else if v = 6 then [107, 110] else []
theorem ref04_needs (v : Int) : m_ticketlineref04_needs v = some (strOf (needS v)) := by
  unfold m_ticketlineref04_needs needS
  by_cases h1 : v = 1
  · subst h1; rfl
  by_cases h2 : v = 2
  · subst h2; rfl
  by_cases h3 : v = 3
  · subst h3; rfl
  by_cases h4 : v = 4
  · subst h4; rfl
  by_cases h5 : v = 5
  · subst h5; rfl
  by_cases h6 : v = 6
  · subst h6; rfl
  simp [h1, h2, h3, h4, h5, h6]; rfl
theorem rnext_l0 {b : List Int} (hb : RB b) (N n : Nat) (hn : 4 ≤ n) (j1 j2 j3 j4 : Int) (s1 s2 s3 : ByteArray) (j5 : Int) (th p : Int) (hp : 0 ≤ p ∧ p < 256) :
    m_ticketlineref04_Next_l0 N n b (strOf (needS (p % 8 + 1))) 0 j1 j2 j3 j4 s1 s2 s3 j5 3 th 0 (p % 8 + 1) eB eB eB (p / 8) = some ((startS th p (at' b 2) (at' b 3) (at' b 4)).1, ((startS th p (at' b 2) (at' b 3) (at' b 4)).2 : Int)) := by
  obtain ⟨n, rfl⟩ : ∃ q, n = q + 4 := ⟨n - 4, by omega⟩
  have k2 := ref04_Key (hb.at 2)
  have v3 := ref04_Value (hb.at 3)
  have v4 := ref04_Value (hb.at 4)
  have r2 : m_ticketlineref04_at b 2 = some (at' b 2) := ref04_at hb 2
  have r3 : m_ticketlineref04_at b 3 = some (at' b 3) := ref04_at hb 3
  have r4 : m_ticketlineref04_at b 4 = some (at' b 4) := ref04_at hb 4
  have m4 : IntKind.i64.wrap (Int.tmod (at' b 3) 32 + 1) = at' b 3 % 32 + 1 := by have := hb.at 3; rw [Int.tmod_eq_emod_of_nonneg (by omega), wI (by omega) (by omega)]
  have hv : p % 8 + 1 = 1 ∨ p % 8 + 1 = 2 ∨ p % 8 + 1 = 3 ∨ p % 8 + 1 = 4 ∨ p % 8 + 1 = 5 ∨ p % 8 + 1 = 6 ∨ p % 8 + 1 = 7 ∨ p % 8 + 1 = 8 := by omega
  unfold startS
  generalize p % 8 + 1 = v at hv
  generalize p / 8 = tk
  rcases hv with rfl | rfl | rfl | rfl | rfl | rfl | rfl | rfl
  · have sz : (strOf (needS 1)).size = 1 := rfl
    have b0 : bt (strOf (needS 1)) 0 = 107 := rfl
    simp [m_ticketlineref04_Next_l0, m_ticketlineref04_Next_l0_b, sz, b0, w1', w2', w3', r2, k2]
  · have sz : (strOf (needS 2)).size = 2 := rfl
    have b0 : bt (strOf (needS 2)) 0 = 107 := rfl
    have b1 : bt (strOf (needS 2)) 1 = 118 := rfl
    simp [m_ticketlineref04_Next_l0, m_ticketlineref04_Next_l0_b, sz, b0, b1, w1', w2', w3', w4', r2, r3, k2, v3]
  · have sz : (strOf (needS 3)).size = 2 := rfl
    have b0 : bt (strOf (needS 3)) 0 = 107 := rfl
    have b1 : bt (strOf (needS 3)) 1 = 118 := rfl
    simp [m_ticketlineref04_Next_l0, m_ticketlineref04_Next_l0_b, sz, b0, b1, w1', w2', w3', w4', r2, r3, k2, v3]
  · have sz : (strOf (needS 4)).size = 1 := rfl
    have b0 : bt (strOf (needS 4)) 0 = 107 := rfl
    simp [m_ticketlineref04_Next_l0, m_ticketlineref04_Next_l0_b, sz, b0, w1', w2', w3', r2, k2]
  · have sz : (strOf (needS 5)).size = 3 := rfl
    have b0 : bt (strOf (needS 5)) 0 = 107 := rfl
    have b1 : bt (strOf (needS 5)) 1 = 111 := rfl
    have b2 : bt (strOf (needS 5)) 2 = 118 := rfl
    simp [m_ticketlineref04_Next_l0, m_ticketlineref04_Next_l0_b, sz, b0, b1, b2, w1', w2', w3', w4', w5', r2, r3, r4, k2, v3, v4]
  · have sz : (strOf (needS 6)).size = 2 := rfl
    have b0 : bt (strOf (needS 6)) 0 = 107 := rfl
    have b1 : bt (strOf (needS 6)) 1 = 110 := rfl
    simp [m_ticketlineref04_Next_l0, m_ticketlineref04_Next_l0_b, sz, b0, b1, w1', w2', w3', w4', r2, r3, k2, m4]
  · have sz : (strOf (needS 7)).size = 0 := rfl
    simp [m_ticketlineref04_Next_l0, m_ticketlineref04_Next_l0_b, sz, w1', w2', w3', w4']
  · have sz : (strOf (needS 8)).size = 0 := rfl
    simp [m_ticketlineref04_Next_l0, m_ticketlineref04_Next_l0_b, sz, w1', w2', w3', w4']
theorem ref04_Next {b : List Int} (hb : RB b) {t : Int} (ht : 1 ≤ t ∧ t ≤ 64) : m_ticketlineref04_Next b t = some ((nextS b t).1, ((nextS b t).2 : Int)) := by
  have hx := hb.at 0
  have hp := hb.at 1
  have r0 : m_ticketlineref04_at b 0 = some (at' b 0) := ref04_at hb 0
  have r1 : m_ticketlineref04_at b 1 = some (at' b 1) := ref04_at hb 1
  have hH := ref04_head hx hp
  have L := rnext_l0 hb FUEL FUEL (by have := FUEL_big; omega) 0 0 0 0 eB eB eB 0 (at' b 0 / 8 % t) (at' b 1) hp
  have eth : Int.tmod (IntKind.i64.wrap (Int.tdiv (at' b 0) 8)) t = at' b 0 / 8 % t := by
    rw [Int.tdiv_eq_ediv_of_nonneg hx.1, wI (by omega) (by omega), Int.tmod_eq_emod_of_nonneg (by omega)]
  unfold m_ticketlineref04_Next m_ticketlineref04_Next_a nextS opS
  simp only [r0, r1, hH, Option.bind_some, eth]
  have hk : at' b 0 % 8 = 0 ∨ at' b 0 % 8 = 1 ∨ at' b 0 % 8 = 2 ∨ at' b 0 % 8 = 3 ∨ at' b 0 % 8 = 4 ∨ at' b 0 % 8 = 5 ∨ at' b 0 % 8 = 6 ∨ at' b 0 % 8 = 7 := by omega
  have t0 : ¬ t = 0 := by omega
  unfold headS
  have L : m_ticketlineref04_Next_l0 FUEL FUEL b (strOf (needS (at' b 1 % 8 + 1))) 0 0 0 0 0 (⟨#[]⟩ : ByteArray) (⟨#[]⟩ : ByteArray) (⟨#[]⟩ : ByteArray) 0 3 (at' b 0 / 8 % t) 0 (at' b 1 % 8 + 1) eB eB eB (at' b 1 / 8) = _ := L
  rcases hk with h | h | h | h | h | h | h | h <;> simp [h, m_ticketlineref04_threaded, t0, ref04_needs, L]
end Go.Ev.L.T4
