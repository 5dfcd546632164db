/- A part of the proof of a statement of this seat: the functions keep their promises. No condition. -/
import Derived.Test.YtbmdoalneeeonaaP20c
set_option linter.unusedVariables false
set_option maxRecDepth 100000
namespace Go.Proofs.Ytbmdoalneeeonaa
open Go Go.Ev Go.Ev.M Go.Proofs
def c13 (N : Nat) : Cx := mkC tyL [(24, g24), (46, g46), (47, g47)] [] mtL N
def g13 : Sig := ⟨(.cons (.pure (.pair (.int .i64) (.pair (.int .i64) (.pair .str (.pair .str (.pair (.sl (.pair .str (.pair .str .nl))) (.pair (.sl (.int .u8)) (.pair (.sl (.pair (.int .u8) (.pair (.int .u64) .nl))) .nl)))))))) .nl), (.cons (.pure (.arr 128 (.int .u64))) (.cons (.pure .bool) .nl)), ((List Int) × Bool), fun x => m_ticketlineref14_Plan_Page x.1, fun _ y => (y.1, (y.2, ())), fun _ y => ((), ())⟩
def an13 : Nat → Ann := mkA [(6, ⟨[1, 2, 4, 5], [], [1, 2, 4], false, []⟩), (10, ⟨[1, 2, 4, 6], [], [1, 2, 4], false, []⟩), (18, ⟨[1, 2, 4, 6, 7, 8], [], [1, 2, 4], false, []⟩), (24, ⟨[1, 2, 4, 9], [], [1, 2, 4], false, []⟩)]
noncomputable def k13 (N : Nat) : Ex → St → Option ((List Int) × Bool) := finK (c13 N) Try.f13 g13 (.cons .top .nl) (fun p => (p.1.1, p.1.2.1))
def a13 : Nat → Ann := annP [] an13
def h13_2 (u2_0 : Int) (u2_1 : Int) (u2_2 : Int) (u2_3 : Int) (u2_4 : Int) (u2_5 : ByteArray) (u2_6 : ByteArray) (u2_7 : (List (ByteArray × (ByteArray × Unit)))) (u2_8 : (List Int)) (u2_9 : (List (Int × (Int × Unit)))) (u2_10 : (List Int)) (u2_11 : (List Int)) : St := ⟨174, [(1, (.ref 1 [])), (2, (.ref 2 [])), (4, (.ref 4 [])), (6, (.int .i64 u2_0)), (7, (.int .i64 u2_1)), (8, (.int .i64 u2_2))], [(1, (.cons (.int .i64 u2_3) (.cons (.int .i64 u2_4) (.cons (.str u2_5) (.cons (.str u2_6) (.cons (.lst (.pair .str (.pair .str .nl)) u2_7) (.cons (.lst (.int .u8) u2_8) (.cons (.lst (.pair (.int .u8) (.pair (.int .u64) .nl)) u2_9) .nl)))))))), (2, (.arr (.int .u64) 128 u2_10)), (4, (.arr (.int .u64) 128 u2_11))]⟩
def h13_3 (u3_0 : Int) (u3_1 : Int) (u3_2 : Int) (u3_3 : ByteArray) (u3_4 : ByteArray) (u3_5 : (List (ByteArray × (ByteArray × Unit)))) (u3_6 : (List Int)) (u3_7 : (List (Int × (Int × Unit)))) (u3_8 : (List Int)) (u3_9 : (List Int)) : St := ⟨174, [(1, (.ref 1 [])), (2, (.ref 2 [])), (4, (.ref 4 [])), (9, (.int .i64 u3_0))], [(1, (.cons (.int .i64 u3_1) (.cons (.int .i64 u3_2) (.cons (.str u3_3) (.cons (.str u3_4) (.cons (.lst (.pair .str (.pair .str .nl)) u3_5) (.cons (.lst (.int .u8) u3_6) (.cons (.lst (.pair (.int .u8) (.pair (.int .u64) .nl)) u3_7) .nl)))))))), (2, (.arr (.int .u64) 128 u3_8)), (4, (.arr (.int .u64) 128 u3_9))]⟩
def h13_1 (u1_0 : Int) (u1_1 : Int) (u1_2 : Int) (u1_3 : ByteArray) (u1_4 : ByteArray) (u1_5 : (List (ByteArray × (ByteArray × Unit)))) (u1_6 : (List Int)) (u1_7 : (List (Int × (Int × Unit)))) (u1_8 : (List Int)) (u1_9 : (List Int)) : St := ⟨174, [(1, (.ref 1 [])), (2, (.ref 2 [])), (4, (.ref 4 [])), (6, (.int .i64 u1_0))], [(1, (.cons (.int .i64 u1_1) (.cons (.int .i64 u1_2) (.cons (.str u1_3) (.cons (.str u1_4) (.cons (.lst (.pair .str (.pair .str .nl)) u1_5) (.cons (.lst (.int .u8) u1_6) (.cons (.lst (.pair (.int .u8) (.pair (.int .u64) .nl)) u1_7) .nl)))))))), (2, (.arr (.int .u64) 128 u1_8)), (4, (.arr (.int .u64) 128 u1_9))]⟩
def h13_0 (u0_0 : Int) (u0_1 : Int) (u0_2 : Int) (u0_3 : ByteArray) (u0_4 : ByteArray) (u0_5 : (List (ByteArray × (ByteArray × Unit)))) (u0_6 : (List Int)) (u0_7 : (List (Int × (Int × Unit)))) (u0_8 : (List Int)) (u0_9 : (List Int)) : St := ⟨174, [(1, (.ref 1 [])), (2, (.ref 2 [])), (4, (.ref 4 [])), (5, (.int .i64 u0_0))], [(1, (.cons (.int .i64 u0_1) (.cons (.int .i64 u0_2) (.cons (.str u0_3) (.cons (.str u0_4) (.cons (.lst (.pair .str (.pair .str .nl)) u0_5) (.cons (.lst (.int .u8) u0_6) (.cons (.lst (.pair (.int .u8) (.pair (.int .u64) .nl)) u0_7) .nl)))))))), (2, (.arr (.int .u64) 128 u0_8)), (4, (.arr (.int .u64) 128 u0_9))]⟩
theorem t13_2 : ∀ (N : Nat) (m0 : Nat) (n : Nat) (u2_0 : Int) (u2_1 : Int) (u2_2 : Int) (u2_3 : Int) (u2_4 : Int) (u2_5 : ByteArray) (u2_6 : ByteArray) (u2_7 : (List (ByteArray × (ByteArray × Unit)))) (u2_8 : (List Int)) (u2_9 : (List (Int × (Int × Unit)))) (u2_10 : (List Int)) (u2_11 : (List Int)), loopAt (c13 N) a13 [1, 1, 1, 1, 1, 0, 1, 0, 0, 1, 0, 0, 1, 1, 1, 0, 1, 0] [m0] (codeOf Try.f13) (k13 N) n (h13_2 u2_0 u2_1 u2_2 u2_3 u2_4 u2_5 u2_6 u2_7 u2_8 u2_9 u2_10 u2_11) = m_ticketlineref14_Plan_Page_l2 N (fun w0 w1 w2 w3 w4 w5 w6 w7 w8 w9 => loopAt (c13 N) a13 [1, 1, 1, 1, 1, 0, 1, 0] [] (codeOf Try.f13) (k13 N) m0 (h13_1 w0 w1 w2 w3 w4 w5 w6 w7 w8 w9)) n u2_0 u2_1 u2_2 u2_3 u2_4 u2_5 u2_6 u2_7 u2_8 u2_9 u2_10 u2_11 := by
  intro N m0 n
  induction n with
  | zero => intro u2_0 u2_1 u2_2 u2_3 u2_4 u2_5 u2_6 u2_7 u2_8 u2_9 u2_10 u2_11; kernel_rfl
  | succ n ih =>
    intro u2_0 u2_1 u2_2 u2_3 u2_4 u2_5 u2_6 u2_7 u2_8 u2_9 u2_10 u2_11
    have e : loopAt (c13 N) a13 [1, 1, 1, 1, 1, 0, 1, 0, 0, 1, 0, 0, 1, 1, 1, 0, 1, 0] [m0] (codeOf Try.f13) (k13 N) (n + 1) (h13_2 u2_0 u2_1 u2_2 u2_3 u2_4 u2_5 u2_6 u2_7 u2_8 u2_9 u2_10 u2_11) = m_ticketlineref14_Plan_Page_l2_b (fun w0 w1 w2 w3 w4 w5 w6 w7 w8 w9 => loopAt (c13 N) a13 [1, 1, 1, 1, 1, 0, 1, 0] [] (codeOf Try.f13) (k13 N) m0 (h13_1 w0 w1 w2 w3 w4 w5 w6 w7 w8 w9)) (fun w0 w1 w2 w3 w4 w5 w6 w7 w8 w9 w10 w11 => loopAt (c13 N) a13 [1, 1, 1, 1, 1, 0, 1, 0, 0, 1, 0, 0, 1, 1, 1, 0, 1, 0] [m0] (codeOf Try.f13) (k13 N) n (h13_2 w0 w1 w2 w3 w4 w5 w6 w7 w8 w9 w10 w11)) u2_0 u2_1 u2_2 u2_3 u2_4 u2_5 u2_6 u2_7 u2_8 u2_9 u2_10 u2_11 := by kernel_rfl
    refine e.trans ?_
    have es : (fun w0 w1 w2 w3 w4 w5 w6 w7 w8 w9 w10 w11 => loopAt (c13 N) a13 [1, 1, 1, 1, 1, 0, 1, 0, 0, 1, 0, 0, 1, 1, 1, 0, 1, 0] [m0] (codeOf Try.f13) (k13 N) n (h13_2 w0 w1 w2 w3 w4 w5 w6 w7 w8 w9 w10 w11)) = m_ticketlineref14_Plan_Page_l2 N (fun w0 w1 w2 w3 w4 w5 w6 w7 w8 w9 => loopAt (c13 N) a13 [1, 1, 1, 1, 1, 0, 1, 0] [] (codeOf Try.f13) (k13 N) m0 (h13_1 w0 w1 w2 w3 w4 w5 w6 w7 w8 w9)) n := by
      funext w0 w1 w2 w3 w4 w5 w6 w7 w8 w9 w10 w11; exact ih w0 w1 w2 w3 w4 w5 w6 w7 w8 w9 w10 w11
    rw [es]
    rw [m_ticketlineref14_Plan_Page_l2]
theorem t13_3 : ∀ (N : Nat) (n : Nat) (u3_0 : Int) (u3_1 : Int) (u3_2 : Int) (u3_3 : ByteArray) (u3_4 : ByteArray) (u3_5 : (List (ByteArray × (ByteArray × Unit)))) (u3_6 : (List Int)) (u3_7 : (List (Int × (Int × Unit)))) (u3_8 : (List Int)) (u3_9 : (List Int)), loopAt (c13 N) a13 [1, 1, 1, 1, 1, 1, 0, 1, 0] [] (codeOf Try.f13) (k13 N) n (h13_3 u3_0 u3_1 u3_2 u3_3 u3_4 u3_5 u3_6 u3_7 u3_8 u3_9) = m_ticketlineref14_Plan_Page_l3 N n u3_0 u3_1 u3_2 u3_3 u3_4 u3_5 u3_6 u3_7 u3_8 u3_9 := by
  intro N n
  induction n with
  | zero => intro u3_0 u3_1 u3_2 u3_3 u3_4 u3_5 u3_6 u3_7 u3_8 u3_9; kernel_rfl
  | succ n ih =>
    intro u3_0 u3_1 u3_2 u3_3 u3_4 u3_5 u3_6 u3_7 u3_8 u3_9
    have e : loopAt (c13 N) a13 [1, 1, 1, 1, 1, 1, 0, 1, 0] [] (codeOf Try.f13) (k13 N) (n + 1) (h13_3 u3_0 u3_1 u3_2 u3_3 u3_4 u3_5 u3_6 u3_7 u3_8 u3_9) = m_ticketlineref14_Plan_Page_l3_b (fun w0 w1 w2 w3 w4 w5 w6 w7 w8 w9 => loopAt (c13 N) a13 [1, 1, 1, 1, 1, 1, 0, 1, 0] [] (codeOf Try.f13) (k13 N) n (h13_3 w0 w1 w2 w3 w4 w5 w6 w7 w8 w9)) u3_0 u3_1 u3_2 u3_3 u3_4 u3_5 u3_6 u3_7 u3_8 u3_9 := by kernel_rfl
    refine e.trans ?_
    have es : (fun w0 w1 w2 w3 w4 w5 w6 w7 w8 w9 => loopAt (c13 N) a13 [1, 1, 1, 1, 1, 1, 0, 1, 0] [] (codeOf Try.f13) (k13 N) n (h13_3 w0 w1 w2 w3 w4 w5 w6 w7 w8 w9)) = m_ticketlineref14_Plan_Page_l3 N n := by
      funext w0 w1 w2 w3 w4 w5 w6 w7 w8 w9; exact ih w0 w1 w2 w3 w4 w5 w6 w7 w8 w9
    rw [es]
    rw [m_ticketlineref14_Plan_Page_l3]
theorem t13_1 : ∀ (N : Nat) (n : Nat) (u1_0 : Int) (u1_1 : Int) (u1_2 : Int) (u1_3 : ByteArray) (u1_4 : ByteArray) (u1_5 : (List (ByteArray × (ByteArray × Unit)))) (u1_6 : (List Int)) (u1_7 : (List (Int × (Int × Unit)))) (u1_8 : (List Int)) (u1_9 : (List Int)), loopAt (c13 N) a13 [1, 1, 1, 1, 1, 0, 1, 0] [] (codeOf Try.f13) (k13 N) n (h13_1 u1_0 u1_1 u1_2 u1_3 u1_4 u1_5 u1_6 u1_7 u1_8 u1_9) = m_ticketlineref14_Plan_Page_l1 N n u1_0 u1_1 u1_2 u1_3 u1_4 u1_5 u1_6 u1_7 u1_8 u1_9 := by
  intro N n
  induction n with
  | zero => intro u1_0 u1_1 u1_2 u1_3 u1_4 u1_5 u1_6 u1_7 u1_8 u1_9; kernel_rfl
  | succ n ih =>
    intro u1_0 u1_1 u1_2 u1_3 u1_4 u1_5 u1_6 u1_7 u1_8 u1_9
    have e : loopAt (c13 N) a13 [1, 1, 1, 1, 1, 0, 1, 0] [] (codeOf Try.f13) (k13 N) (n + 1) (h13_1 u1_0 u1_1 u1_2 u1_3 u1_4 u1_5 u1_6 u1_7 u1_8 u1_9) = m_ticketlineref14_Plan_Page_l1_b (fun w0 w1 w2 w3 w4 w5 w6 w7 w8 w9 => loopAt (c13 N) a13 [1, 1, 1, 1, 1, 0, 1, 0] [] (codeOf Try.f13) (k13 N) n (h13_1 w0 w1 w2 w3 w4 w5 w6 w7 w8 w9)) (fun w0 w1 w2 w3 w4 w5 w6 w7 w8 w9 w10 w11 => loopAt (c13 N) a13 [1, 1, 1, 1, 1, 0, 1, 0, 0, 1, 0, 0, 1, 1, 1, 0, 1, 0] [n] (codeOf Try.f13) (k13 N) N (h13_2 w0 w1 w2 w3 w4 w5 w6 w7 w8 w9 w10 w11)) (fun w0 w1 w2 w3 w4 w5 w6 w7 w8 w9 => loopAt (c13 N) a13 [1, 1, 1, 1, 1, 1, 0, 1, 0] [] (codeOf Try.f13) (k13 N) N (h13_3 w0 w1 w2 w3 w4 w5 w6 w7 w8 w9)) u1_0 u1_1 u1_2 u1_3 u1_4 u1_5 u1_6 u1_7 u1_8 u1_9 := by kernel_rfl
    refine e.trans ?_
    have e2 : (fun w0 w1 w2 w3 w4 w5 w6 w7 w8 w9 w10 w11 => loopAt (c13 N) a13 [1, 1, 1, 1, 1, 0, 1, 0, 0, 1, 0, 0, 1, 1, 1, 0, 1, 0] [n] (codeOf Try.f13) (k13 N) N (h13_2 w0 w1 w2 w3 w4 w5 w6 w7 w8 w9 w10 w11)) = m_ticketlineref14_Plan_Page_l2 N (fun w0 w1 w2 w3 w4 w5 w6 w7 w8 w9 => loopAt (c13 N) a13 [1, 1, 1, 1, 1, 0, 1, 0] [] (codeOf Try.f13) (k13 N) n (h13_1 w0 w1 w2 w3 w4 w5 w6 w7 w8 w9)) N := by
      funext w0 w1 w2 w3 w4 w5 w6 w7 w8 w9 w10 w11; exact t13_2 N n N w0 w1 w2 w3 w4 w5 w6 w7 w8 w9 w10 w11
    rw [e2]
    have e3 : (fun w0 w1 w2 w3 w4 w5 w6 w7 w8 w9 => loopAt (c13 N) a13 [1, 1, 1, 1, 1, 1, 0, 1, 0] [] (codeOf Try.f13) (k13 N) N (h13_3 w0 w1 w2 w3 w4 w5 w6 w7 w8 w9)) = m_ticketlineref14_Plan_Page_l3 N N := by
      funext w0 w1 w2 w3 w4 w5 w6 w7 w8 w9; exact t13_3 N N w0 w1 w2 w3 w4 w5 w6 w7 w8 w9
    rw [e3]
    have es : (fun w0 w1 w2 w3 w4 w5 w6 w7 w8 w9 => loopAt (c13 N) a13 [1, 1, 1, 1, 1, 0, 1, 0] [] (codeOf Try.f13) (k13 N) n (h13_1 w0 w1 w2 w3 w4 w5 w6 w7 w8 w9)) = m_ticketlineref14_Plan_Page_l1 N n := by
      funext w0 w1 w2 w3 w4 w5 w6 w7 w8 w9; exact ih w0 w1 w2 w3 w4 w5 w6 w7 w8 w9
    rw [es]
    rw [m_ticketlineref14_Plan_Page_l1]
theorem t13_0 : ∀ (N : Nat) (n : Nat) (u0_0 : Int) (u0_1 : Int) (u0_2 : Int) (u0_3 : ByteArray) (u0_4 : ByteArray) (u0_5 : (List (ByteArray × (ByteArray × Unit)))) (u0_6 : (List Int)) (u0_7 : (List (Int × (Int × Unit)))) (u0_8 : (List Int)) (u0_9 : (List Int)), loopAt (c13 N) a13 [1, 1, 1, 1, 0, 1, 0] [] (codeOf Try.f13) (k13 N) n (h13_0 u0_0 u0_1 u0_2 u0_3 u0_4 u0_5 u0_6 u0_7 u0_8 u0_9) = m_ticketlineref14_Plan_Page_l0 N n u0_0 u0_1 u0_2 u0_3 u0_4 u0_5 u0_6 u0_7 u0_8 u0_9 := by
  intro N n
  induction n with
  | zero => intro u0_0 u0_1 u0_2 u0_3 u0_4 u0_5 u0_6 u0_7 u0_8 u0_9; kernel_rfl
  | succ n ih =>
    intro u0_0 u0_1 u0_2 u0_3 u0_4 u0_5 u0_6 u0_7 u0_8 u0_9
    have e : loopAt (c13 N) a13 [1, 1, 1, 1, 0, 1, 0] [] (codeOf Try.f13) (k13 N) (n + 1) (h13_0 u0_0 u0_1 u0_2 u0_3 u0_4 u0_5 u0_6 u0_7 u0_8 u0_9) = m_ticketlineref14_Plan_Page_l0_b (fun w0 w1 w2 w3 w4 w5 w6 w7 w8 w9 => loopAt (c13 N) a13 [1, 1, 1, 1, 0, 1, 0] [] (codeOf Try.f13) (k13 N) n (h13_0 w0 w1 w2 w3 w4 w5 w6 w7 w8 w9)) (fun w0 w1 w2 w3 w4 w5 w6 w7 w8 w9 => loopAt (c13 N) a13 [1, 1, 1, 1, 1, 0, 1, 0] [] (codeOf Try.f13) (k13 N) N (h13_1 w0 w1 w2 w3 w4 w5 w6 w7 w8 w9)) u0_0 u0_1 u0_2 u0_3 u0_4 u0_5 u0_6 u0_7 u0_8 u0_9 := by kernel_rfl
    refine e.trans ?_
    have e1 : (fun w0 w1 w2 w3 w4 w5 w6 w7 w8 w9 => loopAt (c13 N) a13 [1, 1, 1, 1, 1, 0, 1, 0] [] (codeOf Try.f13) (k13 N) N (h13_1 w0 w1 w2 w3 w4 w5 w6 w7 w8 w9)) = m_ticketlineref14_Plan_Page_l1 N N := by
      funext w0 w1 w2 w3 w4 w5 w6 w7 w8 w9; exact t13_1 N N w0 w1 w2 w3 w4 w5 w6 w7 w8 w9
    rw [e1]
    have es : (fun w0 w1 w2 w3 w4 w5 w6 w7 w8 w9 => loopAt (c13 N) a13 [1, 1, 1, 1, 0, 1, 0] [] (codeOf Try.f13) (k13 N) n (h13_0 w0 w1 w2 w3 w4 w5 w6 w7 w8 w9)) = m_ticketlineref14_Plan_Page_l0 N n := by
      funext w0 w1 w2 w3 w4 w5 w6 w7 w8 w9; exact ih w0 w1 w2 w3 w4 w5 w6 w7 w8 w9
    rw [es]
    rw [m_ticketlineref14_Plan_Page_l0]
theorem ew13 : ∀ (N : Nat) (x : g13.ps.den), evalFn (c13 N) an13 Try.f13 (codeOf Try.f13) g13 x (fun p => (p.1.1, p.1.2.1)) = m_ticketlineref14_Plan_Page_a (m_ticketlineref14_Plan_Page_l0 N N) x.1 := by
  intro N
  intro x
  obtain ⟨x0, xu⟩ := x
  have e : evalFn (c13 N) an13 Try.f13 (codeOf Try.f13) g13 (x0, xu) (fun p => (p.1.1, p.1.2.1)) = m_ticketlineref14_Plan_Page_a (fun w0 w1 w2 w3 w4 w5 w6 w7 w8 w9 => loopAt (c13 N) a13 [1, 1, 1, 1, 0, 1, 0] [] (codeOf Try.f13) (k13 N) N (h13_0 w0 w1 w2 w3 w4 w5 w6 w7 w8 w9)) x0 := by kernel_rfl
  refine e.trans ?_
  have e0 : (fun w0 w1 w2 w3 w4 w5 w6 w7 w8 w9 => loopAt (c13 N) a13 [1, 1, 1, 1, 0, 1, 0] [] (codeOf Try.f13) (k13 N) N (h13_0 w0 w1 w2 w3 w4 w5 w6 w7 w8 w9)) = m_ticketlineref14_Plan_Page_l0 N N := by
    funext w0 w1 w2 w3 w4 w5 w6 w7 w8 w9; exact t13_0 N N w0 w1 w2 w3 w4 w5 w6 w7 w8 w9
  rw [e0]
theorem ev13 : ∀ x : g13.ps.den, evalFn (c13 FUEL) an13 Try.f13 (codeOf Try.f13) g13 x (fun p => (p.1.1, p.1.2.1)) = g13.m x := fun x => ew13 FUEL x
theorem meets13 : Meets Try.prog 13 g13 :=
  meets_of (C := c13 FUEL) (ann := an13) (mkC_ok (gs := [(24, g24), (46, g46), (47, g47)]) (is := []) (mt := mtL) tysOK elemOK ⟨meets24, meets46, meets47, trivial⟩ trivial mtOK FUEL) mixed Try.func13 (by kernel_rfl) (by kernel_rfl) (by kernel_rfl) (of_decide_eq_true (by kernel_rfl)) (fun p => (p.1.1, p.1.2.1)) (fun _ _ => ⟨rfl, rfl⟩) ev13

end Go.Proofs.Ytbmdoalneeeonaa
