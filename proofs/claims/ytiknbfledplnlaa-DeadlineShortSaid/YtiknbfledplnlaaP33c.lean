/- A part of the proof of a statement of this seat: the functions keep their promises. No condition. -/
import Derived.Test.YtiknbfledplnlaaP33b
set_option linter.unusedVariables false
set_option maxRecDepth 100000
namespace Go.Proofs.Ytiknbfledplnlaa
open Go Go.Ev Go.Ev.M Go.Proofs
noncomputable def c4 (N : Nat) : Cx := mkC tyL [(8, g8), (9, g9), (10, g10), (14, g14), (15, g15), (16, g16), (17, g17), (18, g18), (20, g20), (21, g21), (22, g22)] [(19, i19)] mtL N
def g4 : Sig := ⟨(.cons (.pure (.pair (.int .i64) (.pair (.int .i64) .nl))) (.cons (.pure (.int .u64)) (.cons (.pure (.int .i64)) .nl))), (.cons (.pure .bool) .nl), Bool, fun x => m_ticketlinelaw33_DeadlineChecks x.1 x.2.1 x.2.2.1, fun _ y => (y, ()), fun _ y => ((), ((), ((), ())))⟩
def an4 : Nat → Ann := mkA []
theorem ev4 : ∀ x : g4.ps.den, evalFn (c4 FUEL) an4 Try.f4 (codeOf Try.f4) g4 x (fun p => p.1.1) = g4.m x := by
  intro x
  obtain ⟨x0, x1, x2, xu⟩ := x
  show _ = _
  kernel_rfl
theorem meets4 : Meets Try.prog 4 g4 :=
  meets_of (C := c4 FUEL) (ann := an4) (mkC_ok (gs := [(8, g8), (9, g9), (10, g10), (14, g14), (15, g15), (16, g16), (17, g17), (18, g18), (20, g20), (21, g21), (22, g22)]) (is := [(19, i19)]) (mt := mtL) tysOK elemOK ⟨meets8, meets9, meets10, meets14, meets15, meets16, meets17, meets18, meets20, meets21, meets22, trivial⟩ ⟨inl19, trivial⟩ mtOK FUEL) mixed Try.func4 (by kernel_rfl) (by kernel_rfl) (by kernel_rfl) (of_decide_eq_true (by kernel_rfl)) (fun p => p.1.1) (fun _ _ => ⟨rfl, rfl⟩) ev4
noncomputable def c5 (N : Nat) : Cx := mkC tyL [(9, g9), (11, g11), (18, g18), (21, g21), (23, g23), (25, g25)] [(12, i12), (13, i13), (24, i24)] mtL N
def g5 : Sig := ⟨(.cons (.pure (.int .u8)) .nl), (.cons (.pure .bool) .nl), Bool, fun x => m_ticketlinelaw33_DeadlineShort x.1, fun _ y => (y, ()), fun _ y => ((), ())⟩
def an5 : Nat → Ann := mkA [(1000010, ⟨[3, 4, 5], [], [200544, 200704], true, [(200544, [.fld 0], (.own (.int .u64)), 2003208704)]⟩)]
noncomputable def k5 (N : Nat) : Ex → St → Option Bool := finK (c5 N) Try.f5 g5 (.cons .top .nl) (fun p => p.1.1)
def a5 : Nat → Ann := annP [] an5
def h5_0 (u0_0 : Int) (u0_1 : Bool) (u0_2 : Bool) (u0_3 : Int) (u0_4 : Int) (u0_5 : (List Int)) : St := ⟨90, [(3, (.ref 200544 [])), (4, (.int .i64 u0_0)), (5, (.ref 200704 []))], [(200544, (.cons (.full 2003208704) .nl)), (200704, (.cons (.bool u0_1) (.cons (.bool u0_2) (.cons (.int .i64 u0_3) (.cons (.int .i64 u0_4) .nl))))), (2003208704, (.bk (.int .u64) u0_5))]⟩
def pl5 : List (Nat × List Nat) := [(10, [1, 1, 1, 1, 1, 1, 1])]
def sx5 (F0 : St → (Ex → St → Option Bool) → Option Bool) : Stops Bool := stops [(10, F0)]
theorem rx5 (N : Nat) : (sx5 (evalK (c5 N) a5 (cAt [1, 1, 1, 1, 1, 1, 1] (codeOf Try.f5)))).right (c5 N) a5 (codeOf Try.f5) := stops_right (L := pl5) (q := []) rfl (by kernel_rfl)
theorem x5_0 : ∀ (N : Nat) (u0_0 : Int) (u0_1 : Bool) (u0_2 : Bool) (u0_3 : Int) (u0_4 : Int) (u0_5 : (List Int)) (F0 : St → (Ex → St → Option Bool) → Option Bool), evalX (c5 N) a5 (sx5 F0) (cAt [1, 1, 1, 1, 1, 1, 1] (codeOf Try.f5)) (h5_0 u0_0 u0_1 u0_2 u0_3 u0_4 u0_5) (kAtX (c5 N) a5 (sx5 F0) [1, 1, 1, 1, 1, 1, 1] [] (codeOf Try.f5) (k5 N)) = m_ticketlinelaw33_DeadlineShort_l0_b u0_0 u0_1 u0_2 u0_3 u0_4 u0_5 := by
  intro N u0_0 u0_1 u0_2 u0_3 u0_4 u0_5 F0
  kernel_rfl
theorem t5_0 : ∀ (N : Nat) (u0_0 : Int) (u0_1 : Bool) (u0_2 : Bool) (u0_3 : Int) (u0_4 : Int) (u0_5 : (List Int)), cutAt (c5 N) a5 [1, 1, 1, 1, 1, 1, 1] [] (codeOf Try.f5) (k5 N) (h5_0 u0_0 u0_1 u0_2 u0_3 u0_4 u0_5) = m_ticketlinelaw33_DeadlineShort_l0 N u0_0 u0_1 u0_2 u0_3 u0_4 u0_5 := by
  intro N u0_0 u0_1 u0_2 u0_3 u0_4 u0_5
  have e := x5_0 N u0_0 u0_1 u0_2 u0_3 u0_4 u0_5 (evalK (c5 N) a5 (cAt [1, 1, 1, 1, 1, 1, 1] (codeOf Try.f5)))
  rw [evalX_eq (right_at [1, 1, 1, 1, 1, 1, 1] (rx5 N)), kAtX_eq (rx5 N) [1, 1, 1, 1, 1, 1, 1]] at e
  refine Eq.trans (show cutAt (c5 N) a5 [1, 1, 1, 1, 1, 1, 1] [] (codeOf Try.f5) (k5 N) (h5_0 u0_0 u0_1 u0_2 u0_3 u0_4 u0_5) = m_ticketlinelaw33_DeadlineShort_l0_b u0_0 u0_1 u0_2 u0_3 u0_4 u0_5 from e) ?_
  rfl
theorem ew5 : ∀ (N : Nat) (x : g5.ps.den), evalFn (c5 N) an5 Try.f5 (codeOf Try.f5) g5 x (fun p => p.1.1) = m_ticketlinelaw33_DeadlineShort_a (m_ticketlinelaw33_DeadlineShort_l0 N) x.1 := by
  intro N
  intro x
  obtain ⟨x0, xu⟩ := x
  have e : evalFn (c5 N) an5 Try.f5 (codeOf Try.f5) g5 (x0, xu) (fun p => p.1.1) = m_ticketlinelaw33_DeadlineShort_a (fun w0 w1 w2 w3 w4 w5 => cutAt (c5 N) a5 [1, 1, 1, 1, 1, 1, 1] [] (codeOf Try.f5) (k5 N) (h5_0 w0 w1 w2 w3 w4 w5)) x0 := by kernel_rfl
  refine e.trans ?_
  have e0 : (fun w0 w1 w2 w3 w4 w5 => cutAt (c5 N) a5 [1, 1, 1, 1, 1, 1, 1] [] (codeOf Try.f5) (k5 N) (h5_0 w0 w1 w2 w3 w4 w5)) = m_ticketlinelaw33_DeadlineShort_l0 N := by
    funext w0 w1 w2 w3 w4 w5; exact t5_0 N w0 w1 w2 w3 w4 w5
  rw [e0]
theorem ev5 : ∀ x : g5.ps.den, evalFn (c5 FUEL) an5 Try.f5 (codeOf Try.f5) g5 x (fun p => p.1.1) = g5.m x := fun x => ew5 FUEL x
theorem meets5 : Meets Try.prog 5 g5 :=
  meets_of (C := c5 FUEL) (ann := an5) (mkC_ok (gs := [(9, g9), (11, g11), (18, g18), (21, g21), (23, g23), (25, g25)]) (is := [(12, i12), (13, i13), (24, i24)]) (mt := mtL) tysOK elemOK ⟨meets9, meets11, meets18, meets21, meets23, meets25, trivial⟩ ⟨inl12, inl13, inl24, trivial⟩ mtOK FUEL) mixed Try.func5 (by kernel_rfl) (by kernel_rfl) (by kernel_rfl) (of_decide_eq_true (by kernel_rfl)) (fun p => p.1.1) (fun _ _ => ⟨rfl, rfl⟩) ev5
noncomputable def c6 (N : Nat) : Cx := mkC tyL [(9, g9), (10, g10), (18, g18), (23, g23), (26, g26), (27, g27)] [(12, i12), (24, i24)] mtL N
def g6 : Sig := ⟨(.cons (.pure (.int .i64)) (.cons (.pure (.sl (.int .u32))) .nl)), (.cons (.pure .bool) .nl), Bool, fun x => m_ticketlinelaw33_DeadlineHolds x.1 x.2.1, fun _ y => (y, ()), fun _ y => ((), ((), ()))⟩
def an6 : Nat → Ann := mkA [(9, ⟨[0, 1, 5, 6, 8, 9, 10], [], [5, 200960], false, [(200960, [.fld 0], (.own (.int .u64)), 2003215360)]⟩)]
noncomputable def k6 (N : Nat) : Ex → St → Option Bool := finK (c6 N) Try.f6 g6 (.cons .top (.cons .top .nl)) (fun p => p.1.1)
def a6 : Nat → Ann := annP [] an6
def h6_0 (u0_0 : Int) (u0_1 : (List Int)) (u0_2 : Int) (u0_3 : Bool) (u0_4 : Int) (u0_5 : Int) (u0_6 : Int) (u0_7 : (List Int)) : St := ⟨110, [(0, (.int .i64 u0_0)), (1, (.lst (.int .u32) u0_1)), (5, (.ref 5 [])), (6, (.ref 200960 [])), (8, (.int .i64 u0_2)), (9, (.bool u0_3)), (10, (.int .i64 u0_4))], [(5, (.cons (.int .i64 u0_5) (.cons (.int .i64 u0_6) .nl))), (200960, (.cons (.full 2003215360) .nl)), (2003215360, (.bk (.int .u64) u0_7))]⟩
theorem t6_0 : ∀ (N : Nat) (n : Nat) (u0_0 : Int) (u0_1 : (List Int)) (u0_2 : Int) (u0_3 : Bool) (u0_4 : Int) (u0_5 : Int) (u0_6 : Int) (u0_7 : (List Int)), loopAt (c6 N) a6 [1, 1, 1, 1, 1, 1, 0, 1, 0] [] (codeOf Try.f6) (k6 N) n (h6_0 u0_0 u0_1 u0_2 u0_3 u0_4 u0_5 u0_6 u0_7) = m_ticketlinelaw33_DeadlineHolds_l0 N n u0_0 u0_1 u0_2 u0_3 u0_4 u0_5 u0_6 u0_7 := by
  intro N n
  induction n with
  | zero => intro u0_0 u0_1 u0_2 u0_3 u0_4 u0_5 u0_6 u0_7; kernel_rfl
  | succ n ih =>
    intro u0_0 u0_1 u0_2 u0_3 u0_4 u0_5 u0_6 u0_7
    have e : loopAt (c6 N) a6 [1, 1, 1, 1, 1, 1, 0, 1, 0] [] (codeOf Try.f6) (k6 N) (n + 1) (h6_0 u0_0 u0_1 u0_2 u0_3 u0_4 u0_5 u0_6 u0_7) = m_ticketlinelaw33_DeadlineHolds_l0_b (fun w0 w1 w2 w3 w4 w5 w6 w7 => loopAt (c6 N) a6 [1, 1, 1, 1, 1, 1, 0, 1, 0] [] (codeOf Try.f6) (k6 N) n (h6_0 w0 w1 w2 w3 w4 w5 w6 w7)) u0_0 u0_1 u0_2 u0_3 u0_4 u0_5 u0_6 u0_7 := by kernel_rfl
    refine e.trans ?_
    have es : (fun w0 w1 w2 w3 w4 w5 w6 w7 => loopAt (c6 N) a6 [1, 1, 1, 1, 1, 1, 0, 1, 0] [] (codeOf Try.f6) (k6 N) n (h6_0 w0 w1 w2 w3 w4 w5 w6 w7)) = m_ticketlinelaw33_DeadlineHolds_l0 N n := by
      funext w0 w1 w2 w3 w4 w5 w6 w7; exact ih w0 w1 w2 w3 w4 w5 w6 w7
    rw [es]
    rw [m_ticketlinelaw33_DeadlineHolds_l0]
theorem ew6 : ∀ (N : Nat) (x : g6.ps.den), evalFn (c6 N) an6 Try.f6 (codeOf Try.f6) g6 x (fun p => p.1.1) = m_ticketlinelaw33_DeadlineHolds_a (m_ticketlinelaw33_DeadlineHolds_l0 N N) x.1 x.2.1 := by
  intro N
  intro x
  obtain ⟨x0, x1, xu⟩ := x
  have e : evalFn (c6 N) an6 Try.f6 (codeOf Try.f6) g6 (x0, x1, xu) (fun p => p.1.1) = m_ticketlinelaw33_DeadlineHolds_a (fun w0 w1 w2 w3 w4 w5 w6 w7 => loopAt (c6 N) a6 [1, 1, 1, 1, 1, 1, 0, 1, 0] [] (codeOf Try.f6) (k6 N) N (h6_0 w0 w1 w2 w3 w4 w5 w6 w7)) x0 x1 := by kernel_rfl
  refine e.trans ?_
  have e0 : (fun w0 w1 w2 w3 w4 w5 w6 w7 => loopAt (c6 N) a6 [1, 1, 1, 1, 1, 1, 0, 1, 0] [] (codeOf Try.f6) (k6 N) N (h6_0 w0 w1 w2 w3 w4 w5 w6 w7)) = m_ticketlinelaw33_DeadlineHolds_l0 N N := by
    funext w0 w1 w2 w3 w4 w5 w6 w7; exact t6_0 N N w0 w1 w2 w3 w4 w5 w6 w7
  rw [e0]
theorem ev6 : ∀ x : g6.ps.den, evalFn (c6 FUEL) an6 Try.f6 (codeOf Try.f6) g6 x (fun p => p.1.1) = g6.m x := fun x => ew6 FUEL x
theorem meets6 : Meets Try.prog 6 g6 :=
  meets_of (C := c6 FUEL) (ann := an6) (mkC_ok (gs := [(9, g9), (10, g10), (18, g18), (23, g23), (26, g26), (27, g27)]) (is := [(12, i12), (24, i24)]) (mt := mtL) tysOK elemOK ⟨meets9, meets10, meets18, meets23, meets26, meets27, trivial⟩ ⟨inl12, inl24, trivial⟩ mtOK FUEL) mixed Try.func6 (by kernel_rfl) (by kernel_rfl) (by kernel_rfl) (of_decide_eq_true (by kernel_rfl)) (fun p => p.1.1) (fun _ _ => ⟨rfl, rfl⟩) ev6
end Go.Proofs.Ytiknbfledplnlaa
