/- A part of the proof of a statement of this seat: the functions keep their promises. No condition. -/
import Derived.Test.YtbmdoalneeeonaaP20e
set_option linter.unusedVariables false
set_option maxRecDepth 100000
namespace Go.Proofs.Ytbmdoalneeeonaa
open Go Go.Ev Go.Ev.M Go.Proofs
def c27 (N : Nat) : Cx := mkC tyL [(11, g11), (12, g12), (29, g29), (33, g33), (56, g56)] [] mtL N
def g27 : Sig := ⟨(.cons (.pure (.int .i64)) (.cons (.pure (.int .u8)) .nl)), (.cons (.nptr (.cons (.cons (.ptr (.cons (.own (.int .u64)) .nl)) .nl) .nl)) (.cons (.nptr (.cons (.own (.int .u64)) .nl)) .nl)), ((Option ((((List Int) × Unit) × Unit) × Unit)) × (Option ((List Int) × Unit))), fun x => m_ticketlinelaw20_begun x.1 x.2.1, fun _ y => (y.1, (y.2, ())), fun _ y => ((), ((), ()))⟩
def an27 : Nat → Ann := mkA [(7, ⟨[0, 6, 7, 8, 9], [], [200704, 26], false, [(200704, [.fld 0], (.own (.int .u64)), 2003211264)]⟩), (15, ⟨[0, 6, 7, 8, 10, 12], [], [200704, 26, 201537, 201538, 201539], false, [(200704, [.fld 0], (.own (.int .u64)), 2003211264)]⟩)]
noncomputable def k27 (N : Nat) : Ex → St → Option ((Option ((((List Int) × Unit) × Unit) × Unit)) × (Option ((List Int) × Unit))) := finK (c27 N) Try.f27 g27 (.cons .top (.cons .top .nl)) (fun p => (p.1.1, p.1.2.1))
def a27 : Nat → Ann := annP [] an27
def h27_1 (u1_0 : Int) (u1_1 : Int) (u1_2 : Int) (u1_3 : (List Int)) (u1_4 : (List Int)) (u1_5 : (List Int)) : St := ⟨78, [(0, (.int .i64 u1_0)), (6, (.int .i64 u1_1)), (7, (.ref 200704 [])), (8, (.full 26)), (10, (.ref 201537 [])), (12, (.int .i64 u1_2))], [(200704, (.cons (.full 2003211264) .nl)), (26, (.bk (.int .u64) u1_3)), (201537, (.cons (.cons (.ref 201538 []) .nl) .nl)), (201538, (.cons (.full 201539) .nl)), (201539, (.bk (.int .u64) u1_4)), (2003211264, (.bk (.int .u64) u1_5))]⟩
def h27_0 (u0_0 : Int) (u0_1 : Int) (u0_2 : Int) (u0_3 : (List Int)) (u0_4 : (List Int)) : St := ⟨78, [(0, (.int .i64 u0_0)), (6, (.int .i64 u0_1)), (7, (.ref 200704 [])), (8, (.full 26)), (9, (.int .i64 u0_2))], [(200704, (.cons (.full 2003211264) .nl)), (26, (.bk (.int .u64) u0_3)), (2003211264, (.bk (.int .u64) u0_4))]⟩
theorem t27_1 : ∀ (N : Nat) (n : Nat) (u1_0 : Int) (u1_1 : Int) (u1_2 : Int) (u1_3 : (List Int)) (u1_4 : (List Int)) (u1_5 : (List Int)), loopAt (c27 N) a27 [1, 1, 1, 1, 1, 1, 1, 1, 0, 1, 0] [] (codeOf Try.f27) (k27 N) n (h27_1 u1_0 u1_1 u1_2 u1_3 u1_4 u1_5) = m_ticketlinelaw20_begun_l1 N n u1_0 u1_1 u1_2 u1_3 u1_4 u1_5 := by
  intro N n
  induction n with
  | zero => intro u1_0 u1_1 u1_2 u1_3 u1_4 u1_5; kernel_rfl
  | succ n ih =>
    intro u1_0 u1_1 u1_2 u1_3 u1_4 u1_5
    have e : loopAt (c27 N) a27 [1, 1, 1, 1, 1, 1, 1, 1, 0, 1, 0] [] (codeOf Try.f27) (k27 N) (n + 1) (h27_1 u1_0 u1_1 u1_2 u1_3 u1_4 u1_5) = m_ticketlinelaw20_begun_l1_b (fun w0 w1 w2 w3 w4 w5 => loopAt (c27 N) a27 [1, 1, 1, 1, 1, 1, 1, 1, 0, 1, 0] [] (codeOf Try.f27) (k27 N) n (h27_1 w0 w1 w2 w3 w4 w5)) u1_0 u1_1 u1_2 u1_3 u1_4 u1_5 := by kernel_rfl
    refine e.trans ?_
    have es : (fun w0 w1 w2 w3 w4 w5 => loopAt (c27 N) a27 [1, 1, 1, 1, 1, 1, 1, 1, 0, 1, 0] [] (codeOf Try.f27) (k27 N) n (h27_1 w0 w1 w2 w3 w4 w5)) = m_ticketlinelaw20_begun_l1 N n := by
      funext w0 w1 w2 w3 w4 w5; exact ih w0 w1 w2 w3 w4 w5
    rw [es]
    rw [m_ticketlinelaw20_begun_l1]
theorem t27_0 : ∀ (N : Nat) (n : Nat) (u0_0 : Int) (u0_1 : Int) (u0_2 : Int) (u0_3 : (List Int)) (u0_4 : (List Int)), loopAt (c27 N) a27 [1, 1, 1, 1, 1, 0, 1, 0] [] (codeOf Try.f27) (k27 N) n (h27_0 u0_0 u0_1 u0_2 u0_3 u0_4) = m_ticketlinelaw20_begun_l0 N n u0_0 u0_1 u0_2 u0_3 u0_4 := by
  intro N n
  induction n with
  | zero => intro u0_0 u0_1 u0_2 u0_3 u0_4; kernel_rfl
  | succ n ih =>
    intro u0_0 u0_1 u0_2 u0_3 u0_4
    have e : loopAt (c27 N) a27 [1, 1, 1, 1, 1, 0, 1, 0] [] (codeOf Try.f27) (k27 N) (n + 1) (h27_0 u0_0 u0_1 u0_2 u0_3 u0_4) = m_ticketlinelaw20_begun_l0_b (fun w0 w1 w2 w3 w4 => loopAt (c27 N) a27 [1, 1, 1, 1, 1, 0, 1, 0] [] (codeOf Try.f27) (k27 N) n (h27_0 w0 w1 w2 w3 w4)) (fun w0 w1 w2 w3 w4 w5 => loopAt (c27 N) a27 [1, 1, 1, 1, 1, 1, 1, 1, 0, 1, 0] [] (codeOf Try.f27) (k27 N) N (h27_1 w0 w1 w2 w3 w4 w5)) u0_0 u0_1 u0_2 u0_3 u0_4 := by kernel_rfl
    refine e.trans ?_
    have e1 : (fun w0 w1 w2 w3 w4 w5 => loopAt (c27 N) a27 [1, 1, 1, 1, 1, 1, 1, 1, 0, 1, 0] [] (codeOf Try.f27) (k27 N) N (h27_1 w0 w1 w2 w3 w4 w5)) = m_ticketlinelaw20_begun_l1 N N := by
      funext w0 w1 w2 w3 w4 w5; exact t27_1 N N w0 w1 w2 w3 w4 w5
    rw [e1]
    have es : (fun w0 w1 w2 w3 w4 => loopAt (c27 N) a27 [1, 1, 1, 1, 1, 0, 1, 0] [] (codeOf Try.f27) (k27 N) n (h27_0 w0 w1 w2 w3 w4)) = m_ticketlinelaw20_begun_l0 N n := by
      funext w0 w1 w2 w3 w4; exact ih w0 w1 w2 w3 w4
    rw [es]
    rw [m_ticketlinelaw20_begun_l0]
theorem ew27 : ∀ (N : Nat) (x : g27.ps.den), evalFn (c27 N) an27 Try.f27 (codeOf Try.f27) g27 x (fun p => (p.1.1, p.1.2.1)) = m_ticketlinelaw20_begun_a (m_ticketlinelaw20_begun_l0 N N) x.1 x.2.1 := by
  intro N
  intro x
  obtain ⟨x0, x1, xu⟩ := x
  have e : evalFn (c27 N) an27 Try.f27 (codeOf Try.f27) g27 (x0, x1, xu) (fun p => (p.1.1, p.1.2.1)) = m_ticketlinelaw20_begun_a (fun w0 w1 w2 w3 w4 => loopAt (c27 N) a27 [1, 1, 1, 1, 1, 0, 1, 0] [] (codeOf Try.f27) (k27 N) N (h27_0 w0 w1 w2 w3 w4)) x0 x1 := by kernel_rfl
  refine e.trans ?_
  have e0 : (fun w0 w1 w2 w3 w4 => loopAt (c27 N) a27 [1, 1, 1, 1, 1, 0, 1, 0] [] (codeOf Try.f27) (k27 N) N (h27_0 w0 w1 w2 w3 w4)) = m_ticketlinelaw20_begun_l0 N N := by
    funext w0 w1 w2 w3 w4; exact t27_0 N N w0 w1 w2 w3 w4
  rw [e0]
theorem ev27 : ∀ x : g27.ps.den, evalFn (c27 FUEL) an27 Try.f27 (codeOf Try.f27) g27 x (fun p => (p.1.1, p.1.2.1)) = g27.m x := fun x => ew27 FUEL x
theorem meets27 : Meets Try.prog 27 g27 :=
  meets_of (C := c27 FUEL) (ann := an27) (mkC_ok (gs := [(11, g11), (12, g12), (29, g29), (33, g33), (56, g56)]) (is := []) (mt := mtL) tysOK elemOK ⟨meets11, meets12, meets29, meets33, meets56, trivial⟩ trivial mtOK FUEL) mixed Try.func27 (by kernel_rfl) (by kernel_rfl) (by kernel_rfl) (of_decide_eq_true (by kernel_rfl)) (fun p => (p.1.1, p.1.2.1)) (fun _ _ => ⟨rfl, rfl⟩) ev27
def c87 (N : Nat) : Cx := mkC tyL [] [] mtL N
def g87 : Sig := ⟨(.cons (.pure (.sl (.int .u64))) (.cons (.pure (.int .i64)) .nl)), (.cons (.pure .str) (.cons (.pure .bool) .nl)), (ByteArray × Bool), fun x => m_ticketlineref14_Text x.1 x.2.1, fun _ y => (y.1, (y.2, ())), fun _ y => ((), ((), ()))⟩
def an87 : Nat → Ann := mkA [(3, ⟨[0, 1, 6, 7], [], [14], false, []⟩), (7, ⟨[0, 1, 6, 7, 8, 9], [], [14], false, []⟩), (14, ⟨[1, 6, 10], [], [14], false, []⟩)]
noncomputable def k87 (N : Nat) : Ex → St → Option (ByteArray × Bool) := finK (c87 N) Try.f87 g87 (.cons .top (.cons .top .nl)) (fun p => (p.1.1, p.1.2.1))
def a87 : Nat → Ann := annP [] an87
def h87_1 (u1_0 : (List Int)) (u1_1 : Int) (u1_2 : Int) (u1_3 : Int) (u1_4 : Int) (u1_5 : (List Int)) : St := ⟨60, [(0, (.lst (.int .u64) u1_0)), (1, (.int .i64 u1_1)), (6, (.full 14)), (7, (.int .i64 u1_2)), (8, (.int .u64 u1_3)), (9, (.int .i64 u1_4))], [(14, (.bk (.int .u8) u1_5))]⟩
def h87_2 (u2_0 : Int) (u2_1 : Int) (u2_2 : (List Int)) : St := ⟨60, [(1, (.int .i64 u2_0)), (6, (.full 14)), (10, (.int .i64 u2_1))], [(14, (.bk (.int .u8) u2_2))]⟩
def h87_0 (u0_0 : (List Int)) (u0_1 : Int) (u0_2 : Int) (u0_3 : (List Int)) : St := ⟨60, [(0, (.lst (.int .u64) u0_0)), (1, (.int .i64 u0_1)), (6, (.full 14)), (7, (.int .i64 u0_2))], [(14, (.bk (.int .u8) u0_3))]⟩
theorem t87_1 : ∀ (N : Nat) (m0 : Nat) (n : Nat) (u1_0 : (List Int)) (u1_1 : Int) (u1_2 : Int) (u1_3 : Int) (u1_4 : Int) (u1_5 : (List Int)), loopAt (c87 N) a87 [1, 1, 0, 1, 0, 0, 1, 0, 0, 1, 1, 0] [m0] (codeOf Try.f87) (k87 N) n (h87_1 u1_0 u1_1 u1_2 u1_3 u1_4 u1_5) = m_ticketlineref14_Text_l1 N (fun w0 w1 w2 w3 => loopAt (c87 N) a87 [1, 1, 0, 1, 0] [] (codeOf Try.f87) (k87 N) m0 (h87_0 w0 w1 w2 w3)) n u1_0 u1_1 u1_2 u1_3 u1_4 u1_5 := by
  intro N m0 n
  induction n with
  | zero => intro u1_0 u1_1 u1_2 u1_3 u1_4 u1_5; kernel_rfl
  | succ n ih =>
    intro u1_0 u1_1 u1_2 u1_3 u1_4 u1_5
    have e : loopAt (c87 N) a87 [1, 1, 0, 1, 0, 0, 1, 0, 0, 1, 1, 0] [m0] (codeOf Try.f87) (k87 N) (n + 1) (h87_1 u1_0 u1_1 u1_2 u1_3 u1_4 u1_5) = m_ticketlineref14_Text_l1_b (fun w0 w1 w2 w3 => loopAt (c87 N) a87 [1, 1, 0, 1, 0] [] (codeOf Try.f87) (k87 N) m0 (h87_0 w0 w1 w2 w3)) (fun w0 w1 w2 w3 w4 w5 => loopAt (c87 N) a87 [1, 1, 0, 1, 0, 0, 1, 0, 0, 1, 1, 0] [m0] (codeOf Try.f87) (k87 N) n (h87_1 w0 w1 w2 w3 w4 w5)) u1_0 u1_1 u1_2 u1_3 u1_4 u1_5 := by kernel_rfl
    refine e.trans ?_
    have es : (fun w0 w1 w2 w3 w4 w5 => loopAt (c87 N) a87 [1, 1, 0, 1, 0, 0, 1, 0, 0, 1, 1, 0] [m0] (codeOf Try.f87) (k87 N) n (h87_1 w0 w1 w2 w3 w4 w5)) = m_ticketlineref14_Text_l1 N (fun w0 w1 w2 w3 => loopAt (c87 N) a87 [1, 1, 0, 1, 0] [] (codeOf Try.f87) (k87 N) m0 (h87_0 w0 w1 w2 w3)) n := by
      funext w0 w1 w2 w3 w4 w5; exact ih w0 w1 w2 w3 w4 w5
    rw [es]
    rw [m_ticketlineref14_Text_l1]
theorem t87_2 : ∀ (N : Nat) (n : Nat) (u2_0 : Int) (u2_1 : Int) (u2_2 : (List Int)), loopAt (c87 N) a87 [1, 1, 1, 1, 0, 1, 0] [] (codeOf Try.f87) (k87 N) n (h87_2 u2_0 u2_1 u2_2) = m_ticketlineref14_Text_l2 N n u2_0 u2_1 u2_2 := by
  intro N n
  induction n with
  | zero => intro u2_0 u2_1 u2_2; kernel_rfl
  | succ n ih =>
    intro u2_0 u2_1 u2_2
    have e : loopAt (c87 N) a87 [1, 1, 1, 1, 0, 1, 0] [] (codeOf Try.f87) (k87 N) (n + 1) (h87_2 u2_0 u2_1 u2_2) = m_ticketlineref14_Text_l2_b (fun w0 w1 w2 => loopAt (c87 N) a87 [1, 1, 1, 1, 0, 1, 0] [] (codeOf Try.f87) (k87 N) n (h87_2 w0 w1 w2)) u2_0 u2_1 u2_2 := by kernel_rfl
    refine e.trans ?_
    have es : (fun w0 w1 w2 => loopAt (c87 N) a87 [1, 1, 1, 1, 0, 1, 0] [] (codeOf Try.f87) (k87 N) n (h87_2 w0 w1 w2)) = m_ticketlineref14_Text_l2 N n := by
      funext w0 w1 w2; exact ih w0 w1 w2
    rw [es]
    rw [m_ticketlineref14_Text_l2]
theorem t87_0 : ∀ (N : Nat) (n : Nat) (u0_0 : (List Int)) (u0_1 : Int) (u0_2 : Int) (u0_3 : (List Int)), loopAt (c87 N) a87 [1, 1, 0, 1, 0] [] (codeOf Try.f87) (k87 N) n (h87_0 u0_0 u0_1 u0_2 u0_3) = m_ticketlineref14_Text_l0 N n u0_0 u0_1 u0_2 u0_3 := by
  intro N n
  induction n with
  | zero => intro u0_0 u0_1 u0_2 u0_3; kernel_rfl
  | succ n ih =>
    intro u0_0 u0_1 u0_2 u0_3
    have e : loopAt (c87 N) a87 [1, 1, 0, 1, 0] [] (codeOf Try.f87) (k87 N) (n + 1) (h87_0 u0_0 u0_1 u0_2 u0_3) = m_ticketlineref14_Text_l0_b (fun w0 w1 w2 w3 => loopAt (c87 N) a87 [1, 1, 0, 1, 0] [] (codeOf Try.f87) (k87 N) n (h87_0 w0 w1 w2 w3)) (fun w0 w1 w2 w3 w4 w5 => loopAt (c87 N) a87 [1, 1, 0, 1, 0, 0, 1, 0, 0, 1, 1, 0] [n] (codeOf Try.f87) (k87 N) N (h87_1 w0 w1 w2 w3 w4 w5)) (fun w0 w1 w2 => loopAt (c87 N) a87 [1, 1, 1, 1, 0, 1, 0] [] (codeOf Try.f87) (k87 N) N (h87_2 w0 w1 w2)) u0_0 u0_1 u0_2 u0_3 := by kernel_rfl
    refine e.trans ?_
    have e1 : (fun w0 w1 w2 w3 w4 w5 => loopAt (c87 N) a87 [1, 1, 0, 1, 0, 0, 1, 0, 0, 1, 1, 0] [n] (codeOf Try.f87) (k87 N) N (h87_1 w0 w1 w2 w3 w4 w5)) = m_ticketlineref14_Text_l1 N (fun w0 w1 w2 w3 => loopAt (c87 N) a87 [1, 1, 0, 1, 0] [] (codeOf Try.f87) (k87 N) n (h87_0 w0 w1 w2 w3)) N := by
      funext w0 w1 w2 w3 w4 w5; exact t87_1 N n N w0 w1 w2 w3 w4 w5
    rw [e1]
    have e2 : (fun w0 w1 w2 => loopAt (c87 N) a87 [1, 1, 1, 1, 0, 1, 0] [] (codeOf Try.f87) (k87 N) N (h87_2 w0 w1 w2)) = m_ticketlineref14_Text_l2 N N := by
      funext w0 w1 w2; exact t87_2 N N w0 w1 w2
    rw [e2]
    have es : (fun w0 w1 w2 w3 => loopAt (c87 N) a87 [1, 1, 0, 1, 0] [] (codeOf Try.f87) (k87 N) n (h87_0 w0 w1 w2 w3)) = m_ticketlineref14_Text_l0 N n := by
      funext w0 w1 w2 w3; exact ih w0 w1 w2 w3
    rw [es]
    rw [m_ticketlineref14_Text_l0]
theorem ew87 : ∀ (N : Nat) (x : g87.ps.den), evalFn (c87 N) an87 Try.f87 (codeOf Try.f87) g87 x (fun p => (p.1.1, p.1.2.1)) = m_ticketlineref14_Text_a (m_ticketlineref14_Text_l0 N N) x.1 x.2.1 := by
  intro N
  intro x
  obtain ⟨x0, x1, xu⟩ := x
  have e : evalFn (c87 N) an87 Try.f87 (codeOf Try.f87) g87 (x0, x1, xu) (fun p => (p.1.1, p.1.2.1)) = m_ticketlineref14_Text_a (fun w0 w1 w2 w3 => loopAt (c87 N) a87 [1, 1, 0, 1, 0] [] (codeOf Try.f87) (k87 N) N (h87_0 w0 w1 w2 w3)) x0 x1 := by kernel_rfl
  refine e.trans ?_
  have e0 : (fun w0 w1 w2 w3 => loopAt (c87 N) a87 [1, 1, 0, 1, 0] [] (codeOf Try.f87) (k87 N) N (h87_0 w0 w1 w2 w3)) = m_ticketlineref14_Text_l0 N N := by
    funext w0 w1 w2 w3; exact t87_0 N N w0 w1 w2 w3
  rw [e0]
theorem ev87 : ∀ x : g87.ps.den, evalFn (c87 FUEL) an87 Try.f87 (codeOf Try.f87) g87 x (fun p => (p.1.1, p.1.2.1)) = g87.m x := fun x => ew87 FUEL x
theorem meets87 : Meets Try.prog 87 g87 :=
  meets_of (C := c87 FUEL) (ann := an87) (mkC_ok (gs := []) (is := []) (mt := mtL) tysOK elemOK trivial trivial mtOK FUEL) mixed Try.func87 (by kernel_rfl) (by kernel_rfl) (by kernel_rfl) (of_decide_eq_true (by kernel_rfl)) (fun p => (p.1.1, p.1.2.1)) (fun _ _ => ⟨rfl, rfl⟩) ev87
def c84 (N : Nat) : Cx := mkC tyL [(87, g87)] [] mtL N
def g84 : Sig := ⟨(.cons (.pure (.arr 128 (.int .u64))) (.cons (.pure (.int .i64)) .nl)), (.cons (.pure .str) (.cons (.pure .bool) .nl)), (ByteArray × Bool), fun x => m_ticketlineref14_fence x.1 x.2.1, fun _ y => (y.1, (y.2, ())), fun _ y => ((), ((), ()))⟩
def an84 : Nat → Ann := mkA []
theorem ev84 : ∀ x : g84.ps.den, evalFn (c84 FUEL) an84 Try.f84 (codeOf Try.f84) g84 x (fun p => (p.1.1, p.1.2.1)) = g84.m x := by
  intro x
  obtain ⟨x0, x1, xu⟩ := x
  show _ = _
  kernel_rfl
theorem meets84 : Meets Try.prog 84 g84 :=
  meets_of (C := c84 FUEL) (ann := an84) (mkC_ok (gs := [(87, g87)]) (is := []) (mt := mtL) tysOK elemOK ⟨meets87, trivial⟩ trivial mtOK FUEL) mixed Try.func84 (by kernel_rfl) (by kernel_rfl) (by kernel_rfl) (of_decide_eq_true (by kernel_rfl)) (fun p => (p.1.1, p.1.2.1)) (fun _ _ => ⟨rfl, rfl⟩) ev84
def c85 (N : Nat) : Cx := mkC tyL [] [] mtL N
def g85 : Sig := ⟨(.cons (.pure (.int .u64)) .nl), (.cons (.pure (.pair (.int .i64) (.pair (.int .i64) (.pair (.int .i64) .nl)))) (.cons (.pure .bool) .nl)), ((Int × (Int × (Int × Unit))) × Bool), fun x => m_ticketlineref14_SlotOf x.1, fun _ y => (y.1, (y.2, ())), fun _ y => ((), ())⟩
def an85 : Nat → Ann := mkA []
theorem ev85 : ∀ x : g85.ps.den, evalFn (c85 FUEL) an85 Try.f85 (codeOf Try.f85) g85 x (fun p => (p.1.1, p.1.2.1)) = g85.m x := by
  intro x
  obtain ⟨x0, xu⟩ := x
  show _ = _
  kernel_rfl
theorem meets85 : Meets Try.prog 85 g85 :=
  meets_of (C := c85 FUEL) (ann := an85) (mkC_ok (gs := []) (is := []) (mt := mtL) tysOK elemOK trivial trivial mtOK FUEL) mixed Try.func85 (by kernel_rfl) (by kernel_rfl) (by kernel_rfl) (of_decide_eq_true (by kernel_rfl)) (fun p => (p.1.1, p.1.2.1)) (fun _ _ => ⟨rfl, rfl⟩) ev85
def c86 (N : Nat) : Cx := mkC tyL [(79, g79)] [] mtL N
def g86 : Sig := ⟨(.cons (.pure (.pair (.int .i64) (.pair (.int .i64) (.pair (.int .i64) .nl)))) .nl), (.cons (.pure (.int .i64)) .nl), Int, fun x => m_ticketlineref14_Slot_End x.1, fun _ y => (y, ()), fun _ y => ((), ())⟩
def an86 : Nat → Ann := mkA []
theorem ev86 : ∀ x : g86.ps.den, evalFn (c86 FUEL) an86 Try.f86 (codeOf Try.f86) g86 x (fun p => p.1.1) = g86.m x := by
  intro x
  obtain ⟨x0, xu⟩ := x
  show _ = _
  kernel_rfl
theorem meets86 : Meets Try.prog 86 g86 :=
  meets_of (C := c86 FUEL) (ann := an86) (mkC_ok (gs := [(79, g79)]) (is := []) (mt := mtL) tysOK elemOK ⟨meets79, trivial⟩ trivial mtOK FUEL) mixed Try.func86 (by kernel_rfl) (by kernel_rfl) (by kernel_rfl) (of_decide_eq_true (by kernel_rfl)) (fun p => p.1.1) (fun _ _ => ⟨rfl, rfl⟩) ev86
def c75 (N : Nat) : Cx := mkC tyL [(79, g79), (84, g84), (85, g85), (86, g86), (87, g87)] [] mtL N
def g75 : Sig := ⟨(.cons (.pure (.arr 128 (.int .u64))) .nl), (.cons (.pure .bool) .nl), Bool, fun x => m_ticketlineref14_Valid x.1, fun _ y => (y, ()), fun _ y => ((), ())⟩
def an75 : Nat → Ann := mkA [(6, ⟨[1, 7], [], [1], false, []⟩), (17, ⟨[1, 7, 8, 15], [], [1, 8], false, []⟩)]
noncomputable def k75 (N : Nat) : Ex → St → Option Bool := finK (c75 N) Try.f75 g75 (.cons .top .nl) (fun p => p.1.1)
def a75 : Nat → Ann := annP [] an75
def h75_1 (u1_0 : Int) (u1_1 : Int) (u1_2 : (List Int)) (u1_3 : Int) (u1_4 : Int) (u1_5 : Int) : St := ⟨205, [(1, (.ref 1 [])), (7, (.int .i64 u1_0)), (8, (.ref 8 [])), (15, (.int .i64 u1_1))], [(1, (.arr (.int .u64) 128 u1_2)), (8, (.cons (.int .i64 u1_3) (.cons (.int .i64 u1_4) (.cons (.int .i64 u1_5) .nl))))]⟩
def h75_0 (u0_0 : Int) (u0_1 : (List Int)) : St := ⟨205, [(1, (.ref 1 [])), (7, (.int .i64 u0_0))], [(1, (.arr (.int .u64) 128 u0_1))]⟩
theorem t75_1 : ∀ (N : Nat) (m0 : Nat) (n : Nat) (u1_0 : Int) (u1_1 : Int) (u1_2 : (List Int)) (u1_3 : Int) (u1_4 : Int) (u1_5 : Int), loopAt (c75 N) a75 [1, 1, 1, 1, 0, 1, 0, 0, 1, 0, 0, 1, 1, 1, 1, 1, 1, 1, 0] [m0] (codeOf Try.f75) (k75 N) n (h75_1 u1_0 u1_1 u1_2 u1_3 u1_4 u1_5) = m_ticketlineref14_Valid_l1 N (fun w0 w1 => loopAt (c75 N) a75 [1, 1, 1, 1, 0, 1, 0] [] (codeOf Try.f75) (k75 N) m0 (h75_0 w0 w1)) n u1_0 u1_1 u1_2 u1_3 u1_4 u1_5 := by
  intro N m0 n
  induction n with
  | zero => intro u1_0 u1_1 u1_2 u1_3 u1_4 u1_5; kernel_rfl
  | succ n ih =>
    intro u1_0 u1_1 u1_2 u1_3 u1_4 u1_5
    have e : loopAt (c75 N) a75 [1, 1, 1, 1, 0, 1, 0, 0, 1, 0, 0, 1, 1, 1, 1, 1, 1, 1, 0] [m0] (codeOf Try.f75) (k75 N) (n + 1) (h75_1 u1_0 u1_1 u1_2 u1_3 u1_4 u1_5) = m_ticketlineref14_Valid_l1_b (fun w0 w1 => loopAt (c75 N) a75 [1, 1, 1, 1, 0, 1, 0] [] (codeOf Try.f75) (k75 N) m0 (h75_0 w0 w1)) (fun w0 w1 w2 w3 w4 w5 => loopAt (c75 N) a75 [1, 1, 1, 1, 0, 1, 0, 0, 1, 0, 0, 1, 1, 1, 1, 1, 1, 1, 0] [m0] (codeOf Try.f75) (k75 N) n (h75_1 w0 w1 w2 w3 w4 w5)) u1_0 u1_1 u1_2 u1_3 u1_4 u1_5 := by kernel_rfl
    refine e.trans ?_
    have es : (fun w0 w1 w2 w3 w4 w5 => loopAt (c75 N) a75 [1, 1, 1, 1, 0, 1, 0, 0, 1, 0, 0, 1, 1, 1, 1, 1, 1, 1, 0] [m0] (codeOf Try.f75) (k75 N) n (h75_1 w0 w1 w2 w3 w4 w5)) = m_ticketlineref14_Valid_l1 N (fun w0 w1 => loopAt (c75 N) a75 [1, 1, 1, 1, 0, 1, 0] [] (codeOf Try.f75) (k75 N) m0 (h75_0 w0 w1)) n := by
      funext w0 w1 w2 w3 w4 w5; exact ih w0 w1 w2 w3 w4 w5
    rw [es]
    rw [m_ticketlineref14_Valid_l1]
theorem t75_0 : ∀ (N : Nat) (n : Nat) (u0_0 : Int) (u0_1 : (List Int)), loopAt (c75 N) a75 [1, 1, 1, 1, 0, 1, 0] [] (codeOf Try.f75) (k75 N) n (h75_0 u0_0 u0_1) = m_ticketlineref14_Valid_l0 N n u0_0 u0_1 := by
  intro N n
  induction n with
  | zero => intro u0_0 u0_1; kernel_rfl
  | succ n ih =>
    intro u0_0 u0_1
    have e : loopAt (c75 N) a75 [1, 1, 1, 1, 0, 1, 0] [] (codeOf Try.f75) (k75 N) (n + 1) (h75_0 u0_0 u0_1) = m_ticketlineref14_Valid_l0_b (fun w0 w1 => loopAt (c75 N) a75 [1, 1, 1, 1, 0, 1, 0] [] (codeOf Try.f75) (k75 N) n (h75_0 w0 w1)) (fun w0 w1 w2 w3 w4 w5 => loopAt (c75 N) a75 [1, 1, 1, 1, 0, 1, 0, 0, 1, 0, 0, 1, 1, 1, 1, 1, 1, 1, 0] [n] (codeOf Try.f75) (k75 N) N (h75_1 w0 w1 w2 w3 w4 w5)) u0_0 u0_1 := by kernel_rfl
    refine e.trans ?_
    have e1 : (fun w0 w1 w2 w3 w4 w5 => loopAt (c75 N) a75 [1, 1, 1, 1, 0, 1, 0, 0, 1, 0, 0, 1, 1, 1, 1, 1, 1, 1, 0] [n] (codeOf Try.f75) (k75 N) N (h75_1 w0 w1 w2 w3 w4 w5)) = m_ticketlineref14_Valid_l1 N (fun w0 w1 => loopAt (c75 N) a75 [1, 1, 1, 1, 0, 1, 0] [] (codeOf Try.f75) (k75 N) n (h75_0 w0 w1)) N := by
      funext w0 w1 w2 w3 w4 w5; exact t75_1 N n N w0 w1 w2 w3 w4 w5
    rw [e1]
    have es : (fun w0 w1 => loopAt (c75 N) a75 [1, 1, 1, 1, 0, 1, 0] [] (codeOf Try.f75) (k75 N) n (h75_0 w0 w1)) = m_ticketlineref14_Valid_l0 N n := by
      funext w0 w1; exact ih w0 w1
    rw [es]
    rw [m_ticketlineref14_Valid_l0]
theorem ew75 : ∀ (N : Nat) (x : g75.ps.den), evalFn (c75 N) an75 Try.f75 (codeOf Try.f75) g75 x (fun p => p.1.1) = m_ticketlineref14_Valid_a (m_ticketlineref14_Valid_l0 N N) x.1 := by
  intro N
  intro x
  obtain ⟨x0, xu⟩ := x
  have e : evalFn (c75 N) an75 Try.f75 (codeOf Try.f75) g75 (x0, xu) (fun p => p.1.1) = m_ticketlineref14_Valid_a (fun w0 w1 => loopAt (c75 N) a75 [1, 1, 1, 1, 0, 1, 0] [] (codeOf Try.f75) (k75 N) N (h75_0 w0 w1)) x0 := by kernel_rfl
  refine e.trans ?_
  have e0 : (fun w0 w1 => loopAt (c75 N) a75 [1, 1, 1, 1, 0, 1, 0] [] (codeOf Try.f75) (k75 N) N (h75_0 w0 w1)) = m_ticketlineref14_Valid_l0 N N := by
    funext w0 w1; exact t75_0 N N w0 w1
  rw [e0]
theorem ev75 : ∀ x : g75.ps.den, evalFn (c75 FUEL) an75 Try.f75 (codeOf Try.f75) g75 x (fun p => p.1.1) = g75.m x := fun x => ew75 FUEL x
theorem meets75 : Meets Try.prog 75 g75 :=
  meets_of (C := c75 FUEL) (ann := an75) (mkC_ok (gs := [(79, g79), (84, g84), (85, g85), (86, g86), (87, g87)]) (is := []) (mt := mtL) tysOK elemOK ⟨meets79, meets84, meets85, meets86, meets87, trivial⟩ trivial mtOK FUEL) mixed Try.func75 (by kernel_rfl) (by kernel_rfl) (by kernel_rfl) (of_decide_eq_true (by kernel_rfl)) (fun p => p.1.1) (fun _ _ => ⟨rfl, rfl⟩) ev75
def c76 (N : Nat) : Cx := mkC tyL [(73, g73)] [] mtL N
def g76 : Sig := ⟨(.cons (.ptr (.cons (.own (.int .u64)) .nl)) (.cons (.pure (.int .i64)) (.cons (.pure (.arr 128 (.int .u64))) .nl))), .nl, ((List Int) × Unit), fun x => m_ticketlineref20_Arena_put x.1 x.2.1 x.2.2.1, fun _ y => (), fun _ y => (y, ((), ((), ())))⟩
def an76 : Nat → Ann := mkA [(2, ⟨[0, 1, 5, 6], [], [5, 100001], false, []⟩)]
noncomputable def k76 (N : Nat) : Ex → St → Option ((List Int) × Unit) := finK (c76 N) Try.f76 g76 (.cons (.ref 100000 []) (.cons .top (.cons .top .nl))) (fun p => p.2.1)
def a76 : Nat → Ann := annP [100000] an76
def h76_0 (u0_0 : Int) (u0_1 : Int) (u0_2 : (List Int)) (u0_3 : (List Int)) : St := ⟨22, [(0, (.ref 100000 [])), (1, (.int .i64 u0_0)), (5, (.ref 5 [])), (6, (.int .i64 u0_1))], [(100000, (.cons (.full 100001) .nl)), (5, (.arr (.int .u64) 128 u0_2)), (100001, (.bk (.int .u64) u0_3))]⟩
theorem t76_0 : ∀ (N : Nat) (n : Nat) (u0_0 : Int) (u0_1 : Int) (u0_2 : (List Int)) (u0_3 : (List Int)), loopAt (c76 N) a76 [1, 1, 0] [] (codeOf Try.f76) (k76 N) n (h76_0 u0_0 u0_1 u0_2 u0_3) = m_ticketlineref20_Arena_put_l0 N n u0_0 u0_1 u0_2 u0_3 := by
  intro N n
  induction n with
  | zero => intro u0_0 u0_1 u0_2 u0_3; kernel_rfl
  | succ n ih =>
    intro u0_0 u0_1 u0_2 u0_3
    have e : loopAt (c76 N) a76 [1, 1, 0] [] (codeOf Try.f76) (k76 N) (n + 1) (h76_0 u0_0 u0_1 u0_2 u0_3) = m_ticketlineref20_Arena_put_l0_b (fun w0 w1 w2 w3 => loopAt (c76 N) a76 [1, 1, 0] [] (codeOf Try.f76) (k76 N) n (h76_0 w0 w1 w2 w3)) u0_0 u0_1 u0_2 u0_3 := by kernel_rfl
    refine e.trans ?_
    have es : (fun w0 w1 w2 w3 => loopAt (c76 N) a76 [1, 1, 0] [] (codeOf Try.f76) (k76 N) n (h76_0 w0 w1 w2 w3)) = m_ticketlineref20_Arena_put_l0 N n := by
      funext w0 w1 w2 w3; exact ih w0 w1 w2 w3
    rw [es]
    rw [m_ticketlineref20_Arena_put_l0]
theorem ew76 : ∀ (N : Nat) (x : g76.ps.den), evalFn (c76 N) an76 Try.f76 (codeOf Try.f76) g76 x (fun p => p.2.1) = m_ticketlineref20_Arena_put_a (m_ticketlineref20_Arena_put_l0 N N) x.1 x.2.1 x.2.2.1 := by
  intro N
  intro x
  obtain ⟨x0, x1, x2, xu⟩ := x
  have e : evalFn (c76 N) an76 Try.f76 (codeOf Try.f76) g76 (x0, x1, x2, xu) (fun p => p.2.1) = m_ticketlineref20_Arena_put_a (fun w0 w1 w2 w3 => loopAt (c76 N) a76 [1, 1, 0] [] (codeOf Try.f76) (k76 N) N (h76_0 w0 w1 w2 w3)) x0 x1 x2 := by kernel_rfl
  refine e.trans ?_
  have e0 : (fun w0 w1 w2 w3 => loopAt (c76 N) a76 [1, 1, 0] [] (codeOf Try.f76) (k76 N) N (h76_0 w0 w1 w2 w3)) = m_ticketlineref20_Arena_put_l0 N N := by
    funext w0 w1 w2 w3; exact t76_0 N N w0 w1 w2 w3
  rw [e0]
theorem ev76 : ∀ x : g76.ps.den, evalFn (c76 FUEL) an76 Try.f76 (codeOf Try.f76) g76 x (fun p => p.2.1) = g76.m x := fun x => ew76 FUEL x
theorem meets76 : Meets Try.prog 76 g76 :=
  meets_of (C := c76 FUEL) (ann := an76) (mkC_ok (gs := [(73, g73)]) (is := []) (mt := mtL) tysOK elemOK ⟨meets73, trivial⟩ trivial mtOK FUEL) mixed Try.func76 (by kernel_rfl) (by kernel_rfl) (by kernel_rfl) (of_decide_eq_true (by kernel_rfl)) (fun p => p.2.1) (fun _ _ => ⟨rfl, rfl⟩) ev76
def c32 (N : Nat) : Cx := mkC tyL [(73, g73), (75, g75), (76, g76)] [] mtL N
def g32 : Sig := ⟨(.cons (.ptr (.cons (.own (.int .u64)) .nl)) (.cons (.pure (.arr 128 (.int .u64))) .nl)), (.cons (.pure (.int .i64)) (.cons (.pure (.int .i64)) .nl)), (Int × Int × ((List Int) × Unit)), fun x => m_ticketlineref20_Arena_Alloc x.1 x.2.1, fun _ y => (y.1, (y.2.1, ())), fun _ y => (y.2.2, ((), ()))⟩
def an32 : Nat → Ann := mkA []
theorem ev32 : ∀ x : g32.ps.den, evalFn (c32 FUEL) an32 Try.f32 (codeOf Try.f32) g32 x (fun p => (p.1.1, p.1.2.1, p.2.1)) = g32.m x := by
  intro x
  obtain ⟨x0, x1, xu⟩ := x
  show _ = _
  kernel_rfl
theorem meets32 : Meets Try.prog 32 g32 :=
  meets_of (C := c32 FUEL) (ann := an32) (mkC_ok (gs := [(73, g73), (75, g75), (76, g76)]) (is := []) (mt := mtL) tysOK elemOK ⟨meets73, meets75, meets76, trivial⟩ trivial mtOK FUEL) mixed Try.func32 (by kernel_rfl) (by kernel_rfl) (by kernel_rfl) (of_decide_eq_true (by kernel_rfl)) (fun p => (p.1.1, p.1.2.1, p.2.1)) (fun _ _ => ⟨rfl, rfl⟩) ev32
def c74 (N : Nat) : Cx := mkC tyL [(72, g72), (73, g73)] [] mtL N
def g74 : Sig := ⟨(.cons (.ptr (.cons (.own (.int .u64)) .nl)) (.cons (.pure (.int .i64)) .nl)), (.cons (.pure .bool) .nl), (Bool × ((List Int) × Unit)), fun x => m_ticketlineref20_Arena_used x.1 x.2.1, fun _ y => (y.1, ()), fun _ y => (y.2, ((), ()))⟩
def an74 : Nat → Ann := mkA []
theorem ev74 : ∀ x : g74.ps.den, evalFn (c74 FUEL) an74 Try.f74 (codeOf Try.f74) g74 x (fun p => (p.1.1, p.2.1)) = g74.m x := by
  intro x
  obtain ⟨x0, x1, xu⟩ := x
  show _ = _
  kernel_rfl
theorem meets74 : Meets Try.prog 74 g74 :=
  meets_of (C := c74 FUEL) (ann := an74) (mkC_ok (gs := [(72, g72), (73, g73)]) (is := []) (mt := mtL) tysOK elemOK ⟨meets72, meets73, trivial⟩ trivial mtOK FUEL) mixed Try.func74 (by kernel_rfl) (by kernel_rfl) (by kernel_rfl) (of_decide_eq_true (by kernel_rfl)) (fun p => (p.1.1, p.2.1)) (fun _ _ => ⟨rfl, rfl⟩) ev74
def c82 (N : Nat) : Cx := mkC tyL [(72, g72), (74, g74)] [] mtL N
def g82 : Sig := ⟨(.cons (.ptr (.cons (.own (.int .u64)) .nl)) (.cons (.pure (.int .i64)) .nl)), (.cons (.pure (.int .i64)) .nl), (Int × ((List Int) × Unit)), fun x => m_ticketlineref20_Arena_bad x.1 x.2.1, fun _ y => (y.1, ()), fun _ y => (y.2, ((), ()))⟩
def an82 : Nat → Ann := mkA []
theorem ev82 : ∀ x : g82.ps.den, evalFn (c82 FUEL) an82 Try.f82 (codeOf Try.f82) g82 x (fun p => (p.1.1, p.2.1)) = g82.m x := by
  intro x
  obtain ⟨x0, x1, xu⟩ := x
  show _ = _
  kernel_rfl
theorem meets82 : Meets Try.prog 82 g82 :=
  meets_of (C := c82 FUEL) (ann := an82) (mkC_ok (gs := [(72, g72), (74, g74)]) (is := []) (mt := mtL) tysOK elemOK ⟨meets72, meets74, trivial⟩ trivial mtOK FUEL) mixed Try.func82 (by kernel_rfl) (by kernel_rfl) (by kernel_rfl) (of_decide_eq_true (by kernel_rfl)) (fun p => (p.1.1, p.2.1)) (fun _ _ => ⟨rfl, rfl⟩) ev82
def c83 (N : Nat) : Cx := mkC tyL [(76, g76)] [] mtL N
def g83 : Sig := ⟨(.cons (.ptr (.cons (.own (.int .u64)) .nl)) (.cons (.pure (.int .i64)) .nl)), .nl, ((List Int) × Unit), fun x => m_ticketlineref20_Arena_free x.1 x.2.1, fun _ y => (), fun _ y => (y, ((), ()))⟩
def an83 : Nat → Ann := mkA []
theorem ev83 : ∀ x : g83.ps.den, evalFn (c83 FUEL) an83 Try.f83 (codeOf Try.f83) g83 x (fun p => p.2.1) = g83.m x := by
  intro x
  obtain ⟨x0, x1, xu⟩ := x
  show _ = _
  kernel_rfl
theorem meets83 : Meets Try.prog 83 g83 :=
  meets_of (C := c83 FUEL) (ann := an83) (mkC_ok (gs := [(76, g76)]) (is := []) (mt := mtL) tysOK elemOK ⟨meets76, trivial⟩ trivial mtOK FUEL) mixed Try.func83 (by kernel_rfl) (by kernel_rfl) (by kernel_rfl) (of_decide_eq_true (by kernel_rfl)) (fun p => p.2.1) (fun _ _ => ⟨rfl, rfl⟩) ev83
def c63 (N : Nat) : Cx := mkC tyL [(82, g82), (83, g83)] [] mtL N
def g63 : Sig := ⟨(.cons (.ptr (.cons (.own (.int .u64)) .nl)) (.cons (.pure (.int .i64)) .nl)), (.cons (.pure (.int .i64)) .nl), (Int × ((List Int) × Unit)), fun x => m_ticketlineref20_Arena_Release x.1 x.2.1, fun _ y => (y.1, ()), fun _ y => (y.2, ((), ()))⟩
def an63 : Nat → Ann := mkA []
theorem ev63 : ∀ x : g63.ps.den, evalFn (c63 FUEL) an63 Try.f63 (codeOf Try.f63) g63 x (fun p => (p.1.1, p.2.1)) = g63.m x := by
  intro x
  obtain ⟨x0, x1, xu⟩ := x
  show _ = _
  kernel_rfl
theorem meets63 : Meets Try.prog 63 g63 :=
  meets_of (C := c63 FUEL) (ann := an63) (mkC_ok (gs := [(82, g82), (83, g83)]) (is := []) (mt := mtL) tysOK elemOK ⟨meets82, meets83, trivial⟩ trivial mtOK FUEL) mixed Try.func63 (by kernel_rfl) (by kernel_rfl) (by kernel_rfl) (of_decide_eq_true (by kernel_rfl)) (fun p => (p.1.1, p.2.1)) (fun _ _ => ⟨rfl, rfl⟩) ev63
def c64 (N : Nat) : Cx := mkC tyL [(76, g76), (82, g82)] [] mtL N
def g64 : Sig := ⟨(.cons (.ptr (.cons (.own (.int .u64)) .nl)) (.cons (.pure (.int .i64)) .nl)), (.cons (.pure (.int .i64)) (.cons (.pure (.int .i64)) .nl)), (Int × Int × ((List Int) × Unit)), fun x => m_ticketlineref20_Arena_Defer x.1 x.2.1, fun _ y => (y.1, (y.2.1, ())), fun _ y => (y.2.2, ((), ()))⟩
def an64 : Nat → Ann := mkA []
theorem ev64 : ∀ x : g64.ps.den, evalFn (c64 FUEL) an64 Try.f64 (codeOf Try.f64) g64 x (fun p => (p.1.1, p.1.2.1, p.2.1)) = g64.m x := by
  intro x
  obtain ⟨x0, x1, xu⟩ := x
  show _ = _
  kernel_rfl
theorem meets64 : Meets Try.prog 64 g64 :=
  meets_of (C := c64 FUEL) (ann := an64) (mkC_ok (gs := [(76, g76), (82, g82)]) (is := []) (mt := mtL) tysOK elemOK ⟨meets76, meets82, trivial⟩ trivial mtOK FUEL) mixed Try.func64 (by kernel_rfl) (by kernel_rfl) (by kernel_rfl) (of_decide_eq_true (by kernel_rfl)) (fun p => (p.1.1, p.1.2.1, p.2.1)) (fun _ _ => ⟨rfl, rfl⟩) ev64
def c70 (N : Nat) : Cx := mkC tyL [(72, g72), (73, g73)] [] mtL N
def g70 : Sig := ⟨(.cons (.ptr (.cons (.own (.int .u64)) .nl)) (.cons (.pure (.int .u64)) (.cons (.pure (.int .u64)) .nl))), (.cons (.own (.int .i64)) (.cons (.pure .bool) .nl)), ((List Int) × Bool × ((List Int) × Unit)), fun x => m_ticketlineref20_Arena_list x.1 x.2.1 x.2.2.1, fun _ y => (y.1, (y.2.1, ())), fun _ y => (y.2.2, ((), ((), ())))⟩
def an70 : Nat → Ann := mkA [(3, ⟨[0, 2, 9], [(8, (.own (.int .i64)), 300008)], [], false, [(100000, [.fld 0], (.own (.int .u64)), 2001600000)]⟩)]
noncomputable def k70 (N : Nat) : Ex → St → Option ((List Int) × Bool × ((List Int) × Unit)) := finK (c70 N) Try.f70 g70 (.cons (.ref 100000 []) (.cons .top (.cons .top .nl))) (fun p => (p.1.1, p.1.2.1, p.2.1))
def a70 : Nat → Ann := annP [100000] an70
def h70_0 (u0_0 : Int) (u0_1 : Int) (u0_2 : (List Int)) (u0_3 : (List Int)) : St := ⟨56, [(8, .full 300008), (0, (.ref 100000 [])), (2, (.int .u64 u0_0)), (9, (.int .u64 u0_1))], [(100000, (.cons (.full 2001600000) .nl)), (300008, (.bk (.int .i64) u0_2)), (2001600000, (.bk (.int .u64) u0_3))]⟩
theorem t70_0 : ∀ (N : Nat) (n : Nat) (u0_0 : Int) (u0_1 : Int) (u0_2 : (List Int)) (u0_3 : (List Int)), loopAt (c70 N) a70 [1, 1, 0, 1, 0] [] (codeOf Try.f70) (k70 N) n (h70_0 u0_0 u0_1 u0_2 u0_3) = m_ticketlineref20_Arena_list_l0 N n u0_0 u0_1 u0_2 u0_3 := by
  intro N n
  induction n with
  | zero => intro u0_0 u0_1 u0_2 u0_3; kernel_rfl
  | succ n ih =>
    intro u0_0 u0_1 u0_2 u0_3
    have e : loopAt (c70 N) a70 [1, 1, 0, 1, 0] [] (codeOf Try.f70) (k70 N) (n + 1) (h70_0 u0_0 u0_1 u0_2 u0_3) = m_ticketlineref20_Arena_list_l0_b (fun w0 w1 w2 w3 => loopAt (c70 N) a70 [1, 1, 0, 1, 0] [] (codeOf Try.f70) (k70 N) n (h70_0 w0 w1 w2 w3)) u0_0 u0_1 u0_2 u0_3 := by kernel_rfl
    refine e.trans ?_
    have es : (fun w0 w1 w2 w3 => loopAt (c70 N) a70 [1, 1, 0, 1, 0] [] (codeOf Try.f70) (k70 N) n (h70_0 w0 w1 w2 w3)) = m_ticketlineref20_Arena_list_l0 N n := by
      funext w0 w1 w2 w3; exact ih w0 w1 w2 w3
    rw [es]
    rw [m_ticketlineref20_Arena_list_l0]
theorem ew70 : ∀ (N : Nat) (x : g70.ps.den), evalFn (c70 N) an70 Try.f70 (codeOf Try.f70) g70 x (fun p => (p.1.1, p.1.2.1, p.2.1)) = m_ticketlineref20_Arena_list_a (m_ticketlineref20_Arena_list_l0 N N) x.1 x.2.1 x.2.2.1 := by
  intro N
  intro x
  obtain ⟨x0, x1, x2, xu⟩ := x
  have e : evalFn (c70 N) an70 Try.f70 (codeOf Try.f70) g70 (x0, x1, x2, xu) (fun p => (p.1.1, p.1.2.1, p.2.1)) = m_ticketlineref20_Arena_list_a (fun w0 w1 w2 w3 => loopAt (c70 N) a70 [1, 1, 0, 1, 0] [] (codeOf Try.f70) (k70 N) N (h70_0 w0 w1 w2 w3)) x0 x1 x2 := by kernel_rfl
  refine e.trans ?_
  have e0 : (fun w0 w1 w2 w3 => loopAt (c70 N) a70 [1, 1, 0, 1, 0] [] (codeOf Try.f70) (k70 N) N (h70_0 w0 w1 w2 w3)) = m_ticketlineref20_Arena_list_l0 N N := by
    funext w0 w1 w2 w3; exact t70_0 N N w0 w1 w2 w3
  rw [e0]
theorem ev70 : ∀ x : g70.ps.den, evalFn (c70 FUEL) an70 Try.f70 (codeOf Try.f70) g70 x (fun p => (p.1.1, p.1.2.1, p.2.1)) = g70.m x := fun x => ew70 FUEL x
theorem meets70 : Meets Try.prog 70 g70 :=
  meets_of (C := c70 FUEL) (ann := an70) (mkC_ok (gs := [(72, g72), (73, g73)]) (is := []) (mt := mtL) tysOK elemOK ⟨meets72, meets73, trivial⟩ trivial mtOK FUEL) mixed Try.func70 (by kernel_rfl) (by kernel_rfl) (by kernel_rfl) (of_decide_eq_true (by kernel_rfl)) (fun p => (p.1.1, p.1.2.1, p.2.1)) (fun _ _ => ⟨rfl, rfl⟩) ev70
def c65 (N : Nat) : Cx := mkC tyL [(70, g70), (73, g73), (83, g83)] [] mtL N
def g65 : Sig := ⟨(.cons (.ptr (.cons (.own (.int .u64)) .nl)) (.cons (.pure (.int .i64)) .nl)), (.cons (.pure (.int .i64)) (.cons (.pure (.int .i64)) .nl)), (Int × Int × ((List Int) × Unit)), fun x => m_ticketlineref20_Arena_Reclaim x.1 x.2.1, fun _ y => (y.1, (y.2.1, ())), fun _ y => (y.2.2, ((), ()))⟩
def an65 : Nat → Ann := mkA [(7, ⟨[0, 1, 6, 9, 10], [(8, (.own (.int .i64)), 300008)], [200801], false, [(100000, [.fld 0], (.own (.int .u64)), 2001600000)]⟩)]
noncomputable def k65 (N : Nat) : Ex → St → Option (Int × Int × ((List Int) × Unit)) := finK (c65 N) Try.f65 g65 (.cons (.ref 100000 []) (.cons .top .nl)) (fun p => (p.1.1, p.1.2.1, p.2.1))
def a65 : Nat → Ann := annP [100000] an65
def h65_0 (u0_0 : Int) (u0_1 : Int) (u0_2 : Int) (u0_3 : (List Int)) (u0_4 : (List Int)) (u0_5 : (List Int)) : St := ⟨84, [(8, .full 300008), (0, (.ref 100000 [])), (1, (.int .i64 u0_0)), (6, (.full 200801)), (9, (.int .i64 u0_1)), (10, (.int .i64 u0_2))], [(100000, (.cons (.full 2001600000) .nl)), (200801, (.bk (.int .i64) u0_3)), (300008, (.bk (.int .i64) u0_4)), (2001600000, (.bk (.int .u64) u0_5))]⟩
theorem t65_0 : ∀ (N : Nat) (n : Nat) (u0_0 : Int) (u0_1 : Int) (u0_2 : Int) (u0_3 : (List Int)) (u0_4 : (List Int)) (u0_5 : (List Int)), loopAt (c65 N) a65 [1, 1, 1, 1, 1, 0, 1, 0] [] (codeOf Try.f65) (k65 N) n (h65_0 u0_0 u0_1 u0_2 u0_3 u0_4 u0_5) = m_ticketlineref20_Arena_Reclaim_l0 N n u0_0 u0_1 u0_2 u0_3 u0_4 u0_5 := by
  intro N n
  induction n with
  | zero => intro u0_0 u0_1 u0_2 u0_3 u0_4 u0_5; kernel_rfl
  | succ n ih =>
    intro u0_0 u0_1 u0_2 u0_3 u0_4 u0_5
    have e : loopAt (c65 N) a65 [1, 1, 1, 1, 1, 0, 1, 0] [] (codeOf Try.f65) (k65 N) (n + 1) (h65_0 u0_0 u0_1 u0_2 u0_3 u0_4 u0_5) = m_ticketlineref20_Arena_Reclaim_l0_b (fun w0 w1 w2 w3 w4 w5 => loopAt (c65 N) a65 [1, 1, 1, 1, 1, 0, 1, 0] [] (codeOf Try.f65) (k65 N) n (h65_0 w0 w1 w2 w3 w4 w5)) u0_0 u0_1 u0_2 u0_3 u0_4 u0_5 := by kernel_rfl
    refine e.trans ?_
    have es : (fun w0 w1 w2 w3 w4 w5 => loopAt (c65 N) a65 [1, 1, 1, 1, 1, 0, 1, 0] [] (codeOf Try.f65) (k65 N) n (h65_0 w0 w1 w2 w3 w4 w5)) = m_ticketlineref20_Arena_Reclaim_l0 N n := by
      funext w0 w1 w2 w3 w4 w5; exact ih w0 w1 w2 w3 w4 w5
    rw [es]
    rw [m_ticketlineref20_Arena_Reclaim_l0]
theorem ew65 : ∀ (N : Nat) (x : g65.ps.den), evalFn (c65 N) an65 Try.f65 (codeOf Try.f65) g65 x (fun p => (p.1.1, p.1.2.1, p.2.1)) = m_ticketlineref20_Arena_Reclaim_a (m_ticketlineref20_Arena_Reclaim_l0 N N) x.1 x.2.1 := by
  intro N
  intro x
  obtain ⟨x0, x1, xu⟩ := x
  have e : evalFn (c65 N) an65 Try.f65 (codeOf Try.f65) g65 (x0, x1, xu) (fun p => (p.1.1, p.1.2.1, p.2.1)) = m_ticketlineref20_Arena_Reclaim_a (fun w0 w1 w2 w3 w4 w5 => loopAt (c65 N) a65 [1, 1, 1, 1, 1, 0, 1, 0] [] (codeOf Try.f65) (k65 N) N (h65_0 w0 w1 w2 w3 w4 w5)) x0 x1 := by kernel_rfl
  refine e.trans ?_
  have e0 : (fun w0 w1 w2 w3 w4 w5 => loopAt (c65 N) a65 [1, 1, 1, 1, 1, 0, 1, 0] [] (codeOf Try.f65) (k65 N) N (h65_0 w0 w1 w2 w3 w4 w5)) = m_ticketlineref20_Arena_Reclaim_l0 N N := by
    funext w0 w1 w2 w3 w4 w5; exact t65_0 N N w0 w1 w2 w3 w4 w5
  rw [e0]
theorem ev65 : ∀ x : g65.ps.den, evalFn (c65 FUEL) an65 Try.f65 (codeOf Try.f65) g65 x (fun p => (p.1.1, p.1.2.1, p.2.1)) = g65.m x := fun x => ew65 FUEL x
theorem meets65 : Meets Try.prog 65 g65 :=
  meets_of (C := c65 FUEL) (ann := an65) (mkC_ok (gs := [(70, g70), (73, g73), (83, g83)]) (is := []) (mt := mtL) tysOK elemOK ⟨meets70, meets73, meets83, trivial⟩ trivial mtOK FUEL) mixed Try.func65 (by kernel_rfl) (by kernel_rfl) (by kernel_rfl) (of_decide_eq_true (by kernel_rfl)) (fun p => (p.1.1, p.1.2.1, p.2.1)) (fun _ _ => ⟨rfl, rfl⟩) ev65
def c66 (N : Nat) : Cx := mkC tyL [(75, g75), (76, g76), (82, g82)] [] mtL N
def g66 : Sig := ⟨(.cons (.ptr (.cons (.own (.int .u64)) .nl)) (.cons (.pure (.int .i64)) (.cons (.pure (.arr 128 (.int .u64))) .nl))), (.cons (.pure (.int .i64)) .nl), (Int × ((List Int) × Unit)), fun x => m_ticketlineref20_Arena_Write x.1 x.2.1 x.2.2.1, fun _ y => (y.1, ()), fun _ y => (y.2, ((), ((), ())))⟩
def an66 : Nat → Ann := mkA []
theorem ev66 : ∀ x : g66.ps.den, evalFn (c66 FUEL) an66 Try.f66 (codeOf Try.f66) g66 x (fun p => (p.1.1, p.2.1)) = g66.m x := by
  intro x
  obtain ⟨x0, x1, x2, xu⟩ := x
  show _ = _
  kernel_rfl
theorem meets66 : Meets Try.prog 66 g66 :=
  meets_of (C := c66 FUEL) (ann := an66) (mkC_ok (gs := [(75, g75), (76, g76), (82, g82)]) (is := []) (mt := mtL) tysOK elemOK ⟨meets75, meets76, meets82, trivial⟩ trivial mtOK FUEL) mixed Try.func66 (by kernel_rfl) (by kernel_rfl) (by kernel_rfl) (of_decide_eq_true (by kernel_rfl)) (fun p => (p.1.1, p.2.1)) (fun _ _ => ⟨rfl, rfl⟩) ev66
def c67 (N : Nat) : Cx := mkC tyL [(82, g82)] [] mtL N
def g67 : Sig := ⟨(.cons (.ptr (.cons (.own (.int .u64)) .nl)) (.cons (.pure (.int .i64)) .nl)), (.cons (.pure (.int .i64)) .nl), (Int × ((List Int) × Unit)), fun x => m_ticketlineref20_Arena_SetRoot x.1 x.2.1, fun _ y => (y.1, ()), fun _ y => (y.2, ((), ()))⟩
def an67 : Nat → Ann := mkA []
theorem ev67 : ∀ x : g67.ps.den, evalFn (c67 FUEL) an67 Try.f67 (codeOf Try.f67) g67 x (fun p => (p.1.1, p.2.1)) = g67.m x := by
  intro x
  obtain ⟨x0, x1, xu⟩ := x
  show _ = _
  kernel_rfl
theorem meets67 : Meets Try.prog 67 g67 :=
  meets_of (C := c67 FUEL) (ann := an67) (mkC_ok (gs := [(82, g82)]) (is := []) (mt := mtL) tysOK elemOK ⟨meets82, trivial⟩ trivial mtOK FUEL) mixed Try.func67 (by kernel_rfl) (by kernel_rfl) (by kernel_rfl) (of_decide_eq_true (by kernel_rfl)) (fun p => (p.1.1, p.2.1)) (fun _ _ => ⟨rfl, rfl⟩) ev67
def c28 (N : Nat) : Cx := mkC tyL [(13, g13), (15, g15), (18, g18), (25, g25), (32, g32), (36, g36), (38, g38), (39, g39), (40, g40), (63, g63), (64, g64), (65, g65), (66, g66), (67, g67), (68, g68)] [] mtL N
def g28 : Sig := ⟨(.cons (.ptr (.cons (.cons (.ptr (.cons (.own (.int .u64)) .nl)) .nl) .nl)) (.cons (.ptr (.cons (.own (.int .u64)) .nl)) (.cons (.pure (.pair (.int .i64) (.pair (.int .i64) (.pair (.pair (.int .i64) (.pair (.int .i64) (.pair .str (.pair .str (.pair (.sl (.pair .str (.pair .str .nl))) (.pair (.sl (.int .u8)) (.pair (.sl (.pair (.int .u8) (.pair (.int .u64) .nl))) .nl))))))) .nl)))) .nl))), (.cons (.pure .bool) .nl), (Bool × ((((List Int) × Unit) × Unit) × Unit) × ((List Int) × Unit)), fun x => m_ticketlinelaw20_does x.1 x.2.1 x.2.2.1, fun _ y => (y.1, ()), fun _ y => (y.2.1, (y.2.2, ((), ())))⟩
def an28 : Nat → Ann := mkA []
theorem ev28 : ∀ x : g28.ps.den, evalFn (c28 FUEL) an28 Try.f28 (codeOf Try.f28) g28 x (fun p => (p.1.1, p.2.1, p.2.2.1)) = g28.m x := by
  intro x
  obtain ⟨x0, x1, x2, xu⟩ := x
  show _ = _
  kernel_rfl
theorem meets28 : Meets Try.prog 28 g28 :=
  meets_of (C := c28 FUEL) (ann := an28) (mkC_ok (gs := [(13, g13), (15, g15), (18, g18), (25, g25), (32, g32), (36, g36), (38, g38), (39, g39), (40, g40), (63, g63), (64, g64), (65, g65), (66, g66), (67, g67), (68, g68)]) (is := []) (mt := mtL) tysOK elemOK ⟨meets13, meets15, meets18, meets25, meets32, meets36, meets38, meets39, meets40, meets63, meets64, meets65, meets66, meets67, meets68, trivial⟩ trivial mtOK FUEL) mixed Try.func28 (by kernel_rfl) (by kernel_rfl) (by kernel_rfl) (of_decide_eq_true (by kernel_rfl)) (fun p => (p.1.1, p.2.1, p.2.2.1)) (fun _ _ => ⟨rfl, rfl⟩) ev28
def c30 (N : Nat) : Cx := mkC tyL [(70, g70), (71, g71), (72, g72), (73, g73), (74, g74)] [] mtL N
def g30 : Sig := ⟨(.cons (.pure (.sl (.int .u64))) .nl), (.cons (.nptr (.cons (.own (.int .u64)) .nl)) .nl), (Option ((List Int) × Unit)), fun x => m_ticketlineref20_Open x.1, fun _ y => (y, ()), fun _ y => ((), ())⟩
def an30 : Nat → Ann := mkA [(10, ⟨[0, 3, 6, 8, 9], [], [52, 202113, 203168], false, []⟩)]
noncomputable def k30 (N : Nat) : Ex → St → Option (Option ((List Int) × Unit)) := finK (c30 N) Try.f30 g30 (.cons .top .nl) (fun p => p.1.1)
def a30 : Nat → Ann := annP [] an30
def h30_0 (u0_0 : (List Int)) (u0_1 : Int) (u0_2 : Int) (u0_3 : (List Int)) (u0_4 : (List Int)) : St := ⟨145, [(0, (.lst (.int .u64) u0_0)), (3, (.ref 52 [])), (6, (.full 202113)), (8, (.int .u64 u0_1)), (9, (.int .i64 u0_2))], [(52, (.cons (.full 203168) .nl)), (202113, (.bk (.int .i64) u0_3)), (203168, (.bk (.int .u64) u0_4))]⟩
theorem t30_0 : ∀ (N : Nat) (n : Nat) (u0_0 : (List Int)) (u0_1 : Int) (u0_2 : Int) (u0_3 : (List Int)) (u0_4 : (List Int)), loopAt (c30 N) a30 [1, 1, 1, 1, 1, 1, 1, 0, 1, 0] [] (codeOf Try.f30) (k30 N) n (h30_0 u0_0 u0_1 u0_2 u0_3 u0_4) = m_ticketlineref20_Open_l0 N n u0_0 u0_1 u0_2 u0_3 u0_4 := by
  intro N n
  induction n with
  | zero => intro u0_0 u0_1 u0_2 u0_3 u0_4; kernel_rfl
  | succ n ih =>
    intro u0_0 u0_1 u0_2 u0_3 u0_4
    have e : loopAt (c30 N) a30 [1, 1, 1, 1, 1, 1, 1, 0, 1, 0] [] (codeOf Try.f30) (k30 N) (n + 1) (h30_0 u0_0 u0_1 u0_2 u0_3 u0_4) = m_ticketlineref20_Open_l0_b (fun w0 w1 w2 w3 w4 => loopAt (c30 N) a30 [1, 1, 1, 1, 1, 1, 1, 0, 1, 0] [] (codeOf Try.f30) (k30 N) n (h30_0 w0 w1 w2 w3 w4)) u0_0 u0_1 u0_2 u0_3 u0_4 := by kernel_rfl
    refine e.trans ?_
    have es : (fun w0 w1 w2 w3 w4 => loopAt (c30 N) a30 [1, 1, 1, 1, 1, 1, 1, 0, 1, 0] [] (codeOf Try.f30) (k30 N) n (h30_0 w0 w1 w2 w3 w4)) = m_ticketlineref20_Open_l0 N n := by
      funext w0 w1 w2 w3 w4; exact ih w0 w1 w2 w3 w4
    rw [es]
    rw [m_ticketlineref20_Open_l0]
theorem ew30 : ∀ (N : Nat) (x : g30.ps.den), evalFn (c30 N) an30 Try.f30 (codeOf Try.f30) g30 x (fun p => p.1.1) = m_ticketlineref20_Open_a (m_ticketlineref20_Open_l0 N N) x.1 := by
  intro N
  intro x
  obtain ⟨x0, xu⟩ := x
  have e : evalFn (c30 N) an30 Try.f30 (codeOf Try.f30) g30 (x0, xu) (fun p => p.1.1) = m_ticketlineref20_Open_a (fun w0 w1 w2 w3 w4 => loopAt (c30 N) a30 [1, 1, 1, 1, 1, 1, 1, 0, 1, 0] [] (codeOf Try.f30) (k30 N) N (h30_0 w0 w1 w2 w3 w4)) x0 := by kernel_rfl
  refine e.trans ?_
  have e0 : (fun w0 w1 w2 w3 w4 => loopAt (c30 N) a30 [1, 1, 1, 1, 1, 1, 1, 0, 1, 0] [] (codeOf Try.f30) (k30 N) N (h30_0 w0 w1 w2 w3 w4)) = m_ticketlineref20_Open_l0 N N := by
    funext w0 w1 w2 w3 w4; exact t30_0 N N w0 w1 w2 w3 w4
  rw [e0]
theorem ev30 : ∀ x : g30.ps.den, evalFn (c30 FUEL) an30 Try.f30 (codeOf Try.f30) g30 x (fun p => p.1.1) = g30.m x := fun x => ew30 FUEL x
theorem meets30 : Meets Try.prog 30 g30 :=
  meets_of (C := c30 FUEL) (ann := an30) (mkC_ok (gs := [(70, g70), (71, g71), (72, g72), (73, g73), (74, g74)]) (is := []) (mt := mtL) tysOK elemOK ⟨meets70, meets71, meets72, meets73, meets74, trivial⟩ trivial mtOK FUEL) mixed Try.func30 (by kernel_rfl) (by kernel_rfl) (by kernel_rfl) (of_decide_eq_true (by kernel_rfl)) (fun p => p.1.1) (fun _ _ => ⟨rfl, rfl⟩) ev30

end Go.Proofs.Ytbmdoalneeeonaa
