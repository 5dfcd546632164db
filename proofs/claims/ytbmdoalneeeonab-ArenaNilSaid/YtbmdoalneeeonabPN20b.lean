/- A part of the proof of a statement of this seat: the functions keep their promises. No condition. -/
import Derived.Test.YtbmdoalneeeonabPN20a
set_option linter.unusedVariables false
set_option maxRecDepth 100000
namespace Go.Proofs.Ytbmdoalneeeonab
open Go Go.Ev Go.Ev.M Go.Proofs
def c59 (N : Nat) : Cx := mkC tyL [(60, g60), (61, g61)] [] mtL N
def g59 : Sig := ⟨(.cons (.rptr (.arr 128 (.int .u64))) (.cons (.pure (.int .i64)) .nl)), (.cons (.pure .str) (.cons (.pure (.int .i64)) .nl)), (ByteArray × Int), fun x => m_slot_fence x.1 x.2.1, fun _ y => (y.1, (y.2, ())), fun _ y => ((), ((), ()))⟩
def an59 : Nat → Ann := mkA [(6, ⟨[0, 1, 6, 7, 32, 33, 34], [], [], false, []⟩)]
noncomputable def k59 (N : Nat) : Ex → St → Option (ByteArray × Int) := finK (c59 N) Try.f59 g59 (.cons .top (.cons .top .nl)) (fun p => (p.1.1, p.1.2.1))
def a59 : Nat → Ann := annP [] an59
def h59_0 (u0_0 : (List Int)) (u0_1 : Int) (u0_2 : Int) (u0_3 : Int) (u0_4 : (List Int)) (u0_5 : Int) (u0_6 : Int) : St := ⟨51, [(0, (.pref (.arr 128 (.int .u64)) u0_0)), (1, (.int .i64 u0_1)), (6, (.int .i64 u0_2)), (7, (.int .i64 u0_3)), (32, (.lst (.int .u64) u0_4)), (33, (.int .i64 u0_5)), (34, (.int .i64 u0_6))], []⟩
theorem t59_0 : ∀ (N : Nat) (n : Nat) (u0_0 : (List Int)) (u0_1 : Int) (u0_2 : Int) (u0_3 : Int) (u0_4 : (List Int)) (u0_5 : Int) (u0_6 : Int), loopAt (c59 N) a59 [1, 1, 1, 1, 0, 1, 0] [] (codeOf Try.f59) (k59 N) n (h59_0 u0_0 u0_1 u0_2 u0_3 u0_4 u0_5 u0_6) = m_slot_fence_l0 N n u0_0 u0_1 u0_2 u0_3 u0_4 u0_5 u0_6 := by
  intro N n
  induction n with
  | zero => intro u0_0 u0_1 u0_2 u0_3 u0_4 u0_5 u0_6; kernel_rfl
  | succ n ih =>
    intro u0_0 u0_1 u0_2 u0_3 u0_4 u0_5 u0_6
    have e : loopAt (c59 N) a59 [1, 1, 1, 1, 0, 1, 0] [] (codeOf Try.f59) (k59 N) (n + 1) (h59_0 u0_0 u0_1 u0_2 u0_3 u0_4 u0_5 u0_6) = m_slot_fence_l0_b (fun w0 w1 w2 w3 w4 w5 w6 => loopAt (c59 N) a59 [1, 1, 1, 1, 0, 1, 0] [] (codeOf Try.f59) (k59 N) n (h59_0 w0 w1 w2 w3 w4 w5 w6)) u0_0 u0_1 u0_2 u0_3 u0_4 u0_5 u0_6 := by kernel_rfl
    refine e.trans ?_
    have es : (fun w0 w1 w2 w3 w4 w5 w6 => loopAt (c59 N) a59 [1, 1, 1, 1, 0, 1, 0] [] (codeOf Try.f59) (k59 N) n (h59_0 w0 w1 w2 w3 w4 w5 w6)) = m_slot_fence_l0 N n := by
      funext w0 w1 w2 w3 w4 w5 w6; exact ih w0 w1 w2 w3 w4 w5 w6
    rw [es]
    rw [m_slot_fence_l0]
theorem ew59 : ∀ (N : Nat) (x : g59.ps.den), evalFn (c59 N) an59 Try.f59 (codeOf Try.f59) g59 x (fun p => (p.1.1, p.1.2.1)) = m_slot_fence_a (m_slot_fence_l0 N N) x.1 x.2.1 := by
  intro N
  intro x
  obtain ⟨x0, x1, xu⟩ := x
  have e : evalFn (c59 N) an59 Try.f59 (codeOf Try.f59) g59 (x0, x1, xu) (fun p => (p.1.1, p.1.2.1)) = m_slot_fence_a (fun w0 w1 w2 w3 w4 w5 w6 => loopAt (c59 N) a59 [1, 1, 1, 1, 0, 1, 0] [] (codeOf Try.f59) (k59 N) N (h59_0 w0 w1 w2 w3 w4 w5 w6)) x0 x1 := by kernel_rfl
  refine e.trans ?_
  have e0 : (fun w0 w1 w2 w3 w4 w5 w6 => loopAt (c59 N) a59 [1, 1, 1, 1, 0, 1, 0] [] (codeOf Try.f59) (k59 N) N (h59_0 w0 w1 w2 w3 w4 w5 w6)) = m_slot_fence_l0 N N := by
    funext w0 w1 w2 w3 w4 w5 w6; exact t59_0 N N w0 w1 w2 w3 w4 w5 w6
  rw [e0]
theorem ev59 : ∀ x : g59.ps.den, evalFn (c59 FUEL) an59 Try.f59 (codeOf Try.f59) g59 x (fun p => (p.1.1, p.1.2.1)) = g59.m x := fun x => ew59 FUEL x
theorem meets59 : Meets Try.prog 59 g59 :=
  meets_of (C := c59 FUEL) (ann := an59) (mkC_ok (gs := [(60, g60), (61, g61)]) (is := []) (mt := mtL) tysOK elemOK ⟨meets60, meets61, trivial⟩ trivial mtOK FUEL) mixed Try.func59 (by kernel_rfl) (by kernel_rfl) (by kernel_rfl) (of_decide_eq_true (by kernel_rfl)) (fun p => (p.1.1, p.1.2.1)) (fun _ _ => ⟨rfl, rfl⟩) ev59
def c55 (N : Nat) : Cx := mkC tyL [(59, g59)] [] mtL N
def g55 : Sig := ⟨(.cons (.rptr (.arr 128 (.int .u64))) .nl), (.cons (.pure .bool) .nl), Bool, fun x => m_slot_head x.1, fun _ y => (y, ()), fun _ y => ((), ())⟩
def an55 : Nat → Ann := mkA []
theorem ev55 : ∀ x : g55.ps.den, evalFn (c55 FUEL) an55 Try.f55 (codeOf Try.f55) g55 x (fun p => p.1.1) = g55.m x := by
  intro x
  obtain ⟨x0, xu⟩ := x
  show _ = _
  kernel_rfl
theorem meets55 : Meets Try.prog 55 g55 :=
  meets_of (C := c55 FUEL) (ann := an55) (mkC_ok (gs := [(59, g59)]) (is := []) (mt := mtL) tysOK elemOK ⟨meets59, trivial⟩ trivial mtOK FUEL) mixed Try.func55 (by kernel_rfl) (by kernel_rfl) (by kernel_rfl) (of_decide_eq_true (by kernel_rfl)) (fun p => p.1.1) (fun _ _ => ⟨rfl, rfl⟩) ev55
def c57 (N : Nat) : Cx := mkC tyL [(60, g60)] [] mtL N
def g57 : Sig := ⟨(.cons (.pure (.int .u64)) .nl), (.cons (.pure (.pair (.int .i64) (.pair (.int .i64) (.pair (.int .i64) (.pair (.int .i64) (.pair (.int .i64) .nl)))))) .nl), (Int × (Int × (Int × (Int × (Int × Unit))))), fun x => m_slot_entryOf x.1, fun _ y => (y, ()), fun _ y => ((), ())⟩
def an57 : Nat → Ann := mkA []
theorem ev57 : ∀ x : g57.ps.den, evalFn (c57 FUEL) an57 Try.f57 (codeOf Try.f57) g57 x (fun p => p.1.1) = g57.m x := by
  intro x
  obtain ⟨x0, xu⟩ := x
  show _ = _
  kernel_rfl
theorem meets57 : Meets Try.prog 57 g57 :=
  meets_of (C := c57 FUEL) (ann := an57) (mkC_ok (gs := [(60, g60)]) (is := []) (mt := mtL) tysOK elemOK ⟨meets60, trivial⟩ trivial mtOK FUEL) mixed Try.func57 (by kernel_rfl) (by kernel_rfl) (by kernel_rfl) (of_decide_eq_true (by kernel_rfl)) (fun p => p.1.1) (fun _ _ => ⟨rfl, rfl⟩) ev57
def c56 (N : Nat) : Cx := mkC tyL [(57, g57)] [] mtL N
def g56 : Sig := ⟨(.cons (.rptr (.arr 128 (.int .u64))) (.cons (.pure (.int .i64)) .nl)), (.cons (.pure .bool) .nl), Bool, fun x => m_slot_sized x.1 x.2.1, fun _ y => (y, ()), fun _ y => ((), ((), ()))⟩
def an56 : Nat → Ann := mkA []
theorem ev56 : ∀ x : g56.ps.den, evalFn (c56 FUEL) an56 Try.f56 (codeOf Try.f56) g56 x (fun p => p.1.1) = g56.m x := by
  intro x
  obtain ⟨x0, x1, xu⟩ := x
  show _ = _
  kernel_rfl
theorem meets56 : Meets Try.prog 56 g56 :=
  meets_of (C := c56 FUEL) (ann := an56) (mkC_ok (gs := [(57, g57)]) (is := []) (mt := mtL) tysOK elemOK ⟨meets57, trivial⟩ trivial mtOK FUEL) mixed Try.func56 (by kernel_rfl) (by kernel_rfl) (by kernel_rfl) (of_decide_eq_true (by kernel_rfl)) (fun p => p.1.1) (fun _ _ => ⟨rfl, rfl⟩) ev56
def c58 (N : Nat) : Cx := mkC tyL [(61, g61)] [] mtL N
def g58 : Sig := ⟨(.cons (.rptr (.arr 128 (.int .u64))) (.cons (.pure (.pair (.int .i64) (.pair (.int .i64) (.pair (.int .i64) (.pair (.int .i64) (.pair (.int .i64) .nl)))))) .nl)), (.cons (.pure (.pair .str (.pair .str .nl))) (.cons (.pure (.int .i64)) .nl)), ((ByteArray × (ByteArray × Unit)) × Int), fun x => m_slot_text x.1 x.2.1, fun _ y => (y.1, (y.2, ())), fun _ y => ((), ((), ()))⟩
def an58 : Nat → Ann := mkA []
theorem ev58 : ∀ x : g58.ps.den, evalFn (c58 FUEL) an58 Try.f58 (codeOf Try.f58) g58 x (fun p => (p.1.1, p.1.2.1)) = g58.m x := by
  intro x
  obtain ⟨x0, x1, xu⟩ := x
  show _ = _
  kernel_rfl
theorem meets58 : Meets Try.prog 58 g58 :=
  meets_of (C := c58 FUEL) (ann := an58) (mkC_ok (gs := [(61, g61)]) (is := []) (mt := mtL) tysOK elemOK ⟨meets61, trivial⟩ trivial mtOK FUEL) mixed Try.func58 (by kernel_rfl) (by kernel_rfl) (by kernel_rfl) (of_decide_eq_true (by kernel_rfl)) (fun p => (p.1.1, p.1.2.1)) (fun _ _ => ⟨rfl, rfl⟩) ev58
def c51 (N : Nat) : Cx := mkC tyL [(55, g55), (56, g56), (57, g57), (58, g58)] [] mtL N
def g51 : Sig := ⟨(.cons (.rptr (.arr 128 (.int .u64))) .nl), (.cons (.own (.pair .str (.pair .str .nl))) (.cons (.pure .bool) .nl)), ((List (ByteArray × (ByteArray × Unit))) × Bool), fun x => m_slot_list x.1, fun _ y => (y.1, (y.2, ())), fun _ y => ((), ())⟩
def an51 : Nat → Ann := mkA [(6, ⟨[0, 5, 18, 19], [(4, (.own (.pair .str (.pair .str .nl))), 300004)], [5], false, []⟩), (15, ⟨[0, 4, 5, 7, 8, 10, 18, 19], [], [300004, 5, 7, 8], false, []⟩)]
noncomputable def k51 (N : Nat) : Ex → St → Option ((List (ByteArray × (ByteArray × Unit))) × Bool) := finK (c51 N) Try.f51 g51 (.cons .top .nl) (fun p => (p.1.1, p.1.2.1))
def a51 : Nat → Ann := annP [] an51
def h51_1 (u1_0 : (List Int)) (u1_1 : Int) (u1_2 : Int) (u1_3 : Int) (u1_4 : (List (ByteArray × (ByteArray × Unit)))) (u1_5 : (List Bool)) (u1_6 : Int) (u1_7 : Int) (u1_8 : Int) (u1_9 : Int) (u1_10 : Int) (u1_11 : ByteArray) (u1_12 : ByteArray) : St := ⟨85, [(0, (.pref (.arr 128 (.int .u64)) u1_0)), (4, (.full 300004)), (5, (.ref 5 [])), (7, (.ref 7 [])), (8, (.ref 8 [])), (10, (.int .i64 u1_1)), (18, (.int .i64 u1_2)), (19, (.int .i64 u1_3))], [(300004, (.bk (.pair .str (.pair .str .nl)) u1_4)), (5, (.arr .bool 128 u1_5)), (7, (.cons (.int .i64 u1_6) (.cons (.int .i64 u1_7) (.cons (.int .i64 u1_8) (.cons (.int .i64 u1_9) (.cons (.int .i64 u1_10) .nl)))))), (8, (.cons (.str u1_11) (.cons (.str u1_12) .nl)))]⟩
def h51_0 (u0_0 : (List Int)) (u0_1 : Int) (u0_2 : Int) (u0_3 : (List Bool)) (u0_4 : (List (ByteArray × (ByteArray × Unit)))) : St := ⟨85, [(4, .full 300004), (0, (.pref (.arr 128 (.int .u64)) u0_0)), (5, (.ref 5 [])), (18, (.int .i64 u0_1)), (19, (.int .i64 u0_2))], [(5, (.arr .bool 128 u0_3)), (300004, (.bk (.pair .str (.pair .str .nl)) u0_4))]⟩
theorem t51_1 : ∀ (N : Nat) (m0 : Nat) (n : Nat) (u1_0 : (List Int)) (u1_1 : Int) (u1_2 : Int) (u1_3 : Int) (u1_4 : (List (ByteArray × (ByteArray × Unit)))) (u1_5 : (List Bool)) (u1_6 : Int) (u1_7 : Int) (u1_8 : Int) (u1_9 : Int) (u1_10 : Int) (u1_11 : ByteArray) (u1_12 : ByteArray), loopAt (c51 N) a51 [1, 1, 1, 1, 0, 1, 0, 0, 1, 1, 0, 0, 1, 1, 1, 1, 1, 0, 1, 0] [m0] (codeOf Try.f51) (k51 N) n (h51_1 u1_0 u1_1 u1_2 u1_3 u1_4 u1_5 u1_6 u1_7 u1_8 u1_9 u1_10 u1_11 u1_12) = m_slot_list_l1 N (fun w0 w1 w2 w3 w4 => loopAt (c51 N) a51 [1, 1, 1, 1, 0, 1, 0] [] (codeOf Try.f51) (k51 N) m0 (h51_0 w0 w1 w2 w3 w4)) n u1_0 u1_1 u1_2 u1_3 u1_4 u1_5 u1_6 u1_7 u1_8 u1_9 u1_10 u1_11 u1_12 := by
  intro N m0 n
  induction n with
  | zero => intro u1_0 u1_1 u1_2 u1_3 u1_4 u1_5 u1_6 u1_7 u1_8 u1_9 u1_10 u1_11 u1_12; kernel_rfl
  | succ n ih =>
    intro u1_0 u1_1 u1_2 u1_3 u1_4 u1_5 u1_6 u1_7 u1_8 u1_9 u1_10 u1_11 u1_12
    have e : loopAt (c51 N) a51 [1, 1, 1, 1, 0, 1, 0, 0, 1, 1, 0, 0, 1, 1, 1, 1, 1, 0, 1, 0] [m0] (codeOf Try.f51) (k51 N) (n + 1) (h51_1 u1_0 u1_1 u1_2 u1_3 u1_4 u1_5 u1_6 u1_7 u1_8 u1_9 u1_10 u1_11 u1_12) = m_slot_list_l1_b (fun w0 w1 w2 w3 w4 => loopAt (c51 N) a51 [1, 1, 1, 1, 0, 1, 0] [] (codeOf Try.f51) (k51 N) m0 (h51_0 w0 w1 w2 w3 w4)) (fun w0 w1 w2 w3 w4 w5 w6 w7 w8 w9 w10 w11 w12 => loopAt (c51 N) a51 [1, 1, 1, 1, 0, 1, 0, 0, 1, 1, 0, 0, 1, 1, 1, 1, 1, 0, 1, 0] [m0] (codeOf Try.f51) (k51 N) n (h51_1 w0 w1 w2 w3 w4 w5 w6 w7 w8 w9 w10 w11 w12)) u1_0 u1_1 u1_2 u1_3 u1_4 u1_5 u1_6 u1_7 u1_8 u1_9 u1_10 u1_11 u1_12 := by kernel_rfl
    refine e.trans ?_
    have es : (fun w0 w1 w2 w3 w4 w5 w6 w7 w8 w9 w10 w11 w12 => loopAt (c51 N) a51 [1, 1, 1, 1, 0, 1, 0, 0, 1, 1, 0, 0, 1, 1, 1, 1, 1, 0, 1, 0] [m0] (codeOf Try.f51) (k51 N) n (h51_1 w0 w1 w2 w3 w4 w5 w6 w7 w8 w9 w10 w11 w12)) = m_slot_list_l1 N (fun w0 w1 w2 w3 w4 => loopAt (c51 N) a51 [1, 1, 1, 1, 0, 1, 0] [] (codeOf Try.f51) (k51 N) m0 (h51_0 w0 w1 w2 w3 w4)) n := by
      funext w0 w1 w2 w3 w4 w5 w6 w7 w8 w9 w10 w11 w12; exact ih w0 w1 w2 w3 w4 w5 w6 w7 w8 w9 w10 w11 w12
    rw [es]
    rw [m_slot_list_l1]
theorem t51_0 : ∀ (N : Nat) (n : Nat) (u0_0 : (List Int)) (u0_1 : Int) (u0_2 : Int) (u0_3 : (List Bool)) (u0_4 : (List (ByteArray × (ByteArray × Unit)))), loopAt (c51 N) a51 [1, 1, 1, 1, 0, 1, 0] [] (codeOf Try.f51) (k51 N) n (h51_0 u0_0 u0_1 u0_2 u0_3 u0_4) = m_slot_list_l0 N n u0_0 u0_1 u0_2 u0_3 u0_4 := by
  intro N n
  induction n with
  | zero => intro u0_0 u0_1 u0_2 u0_3 u0_4; kernel_rfl
  | succ n ih =>
    intro u0_0 u0_1 u0_2 u0_3 u0_4
    have e : loopAt (c51 N) a51 [1, 1, 1, 1, 0, 1, 0] [] (codeOf Try.f51) (k51 N) (n + 1) (h51_0 u0_0 u0_1 u0_2 u0_3 u0_4) = m_slot_list_l0_b (fun w0 w1 w2 w3 w4 => loopAt (c51 N) a51 [1, 1, 1, 1, 0, 1, 0] [] (codeOf Try.f51) (k51 N) n (h51_0 w0 w1 w2 w3 w4)) (fun w0 w1 w2 w3 w4 w5 w6 w7 w8 w9 w10 w11 w12 => loopAt (c51 N) a51 [1, 1, 1, 1, 0, 1, 0, 0, 1, 1, 0, 0, 1, 1, 1, 1, 1, 0, 1, 0] [n] (codeOf Try.f51) (k51 N) N (h51_1 w0 w1 w2 w3 w4 w5 w6 w7 w8 w9 w10 w11 w12)) u0_0 u0_1 u0_2 u0_3 u0_4 := by kernel_rfl
    refine e.trans ?_
    have e1 : (fun w0 w1 w2 w3 w4 w5 w6 w7 w8 w9 w10 w11 w12 => loopAt (c51 N) a51 [1, 1, 1, 1, 0, 1, 0, 0, 1, 1, 0, 0, 1, 1, 1, 1, 1, 0, 1, 0] [n] (codeOf Try.f51) (k51 N) N (h51_1 w0 w1 w2 w3 w4 w5 w6 w7 w8 w9 w10 w11 w12)) = m_slot_list_l1 N (fun w0 w1 w2 w3 w4 => loopAt (c51 N) a51 [1, 1, 1, 1, 0, 1, 0] [] (codeOf Try.f51) (k51 N) n (h51_0 w0 w1 w2 w3 w4)) N := by
      funext w0 w1 w2 w3 w4 w5 w6 w7 w8 w9 w10 w11 w12; exact t51_1 N n N w0 w1 w2 w3 w4 w5 w6 w7 w8 w9 w10 w11 w12
    rw [e1]
    have es : (fun w0 w1 w2 w3 w4 => loopAt (c51 N) a51 [1, 1, 1, 1, 0, 1, 0] [] (codeOf Try.f51) (k51 N) n (h51_0 w0 w1 w2 w3 w4)) = m_slot_list_l0 N n := by
      funext w0 w1 w2 w3 w4; exact ih w0 w1 w2 w3 w4
    rw [es]
    rw [m_slot_list_l0]
theorem ew51 : ∀ (N : Nat) (x : g51.ps.den), evalFn (c51 N) an51 Try.f51 (codeOf Try.f51) g51 x (fun p => (p.1.1, p.1.2.1)) = m_slot_list_a (m_slot_list_l0 N N) x.1 := by
  intro N
  intro x
  obtain ⟨x0, xu⟩ := x
  have e : evalFn (c51 N) an51 Try.f51 (codeOf Try.f51) g51 (x0, xu) (fun p => (p.1.1, p.1.2.1)) = m_slot_list_a (fun w0 w1 w2 w3 w4 => loopAt (c51 N) a51 [1, 1, 1, 1, 0, 1, 0] [] (codeOf Try.f51) (k51 N) N (h51_0 w0 w1 w2 w3 w4)) x0 := by kernel_rfl
  refine e.trans ?_
  have e0 : (fun w0 w1 w2 w3 w4 => loopAt (c51 N) a51 [1, 1, 1, 1, 0, 1, 0] [] (codeOf Try.f51) (k51 N) N (h51_0 w0 w1 w2 w3 w4)) = m_slot_list_l0 N N := by
    funext w0 w1 w2 w3 w4; exact t51_0 N N w0 w1 w2 w3 w4
  rw [e0]
theorem ev51 : ∀ x : g51.ps.den, evalFn (c51 FUEL) an51 Try.f51 (codeOf Try.f51) g51 x (fun p => (p.1.1, p.1.2.1)) = g51.m x := fun x => ew51 FUEL x
theorem meets51 : Meets Try.prog 51 g51 :=
  meets_of (C := c51 FUEL) (ann := an51) (mkC_ok (gs := [(55, g55), (56, g56), (57, g57), (58, g58)]) (is := []) (mt := mtL) tysOK elemOK ⟨meets55, meets56, meets57, meets58, trivial⟩ trivial mtOK FUEL) mixed Try.func51 (by kernel_rfl) (by kernel_rfl) (by kernel_rfl) (of_decide_eq_true (by kernel_rfl)) (fun p => (p.1.1, p.1.2.1)) (fun _ _ => ⟨rfl, rfl⟩) ev51
def c35 (N : Nat) : Cx := mkC tyL [(51, g51)] [] mtL N
def g35 : Sig := ⟨(.cons (.pure (.arr 128 (.int .u64))) .nl), (.cons (.pure .bool) .nl), Bool, fun x => m_slot_Valid x.1, fun _ y => (y, ()), fun _ y => ((), ())⟩
def an35 : Nat → Ann := mkA []
theorem ev35 : ∀ x : g35.ps.den, evalFn (c35 FUEL) an35 Try.f35 (codeOf Try.f35) g35 x (fun p => p.1.1) = g35.m x := by
  intro x
  obtain ⟨x0, xu⟩ := x
  show _ = _
  kernel_rfl
theorem meets35 : Meets Try.prog 35 g35 :=
  meets_of (C := c35 FUEL) (ann := an35) (mkC_ok (gs := [(51, g51)]) (is := []) (mt := mtL) tysOK elemOK ⟨meets51, trivial⟩ trivial mtOK FUEL) mixed Try.func35 (by kernel_rfl) (by kernel_rfl) (by kernel_rfl) (of_decide_eq_true (by kernel_rfl)) (fun p => p.1.1) (fun _ _ => ⟨rfl, rfl⟩) ev35
noncomputable def c36 (N : Nat) : Cx := mkC tyL [(22, g22)] [(24, i24)] mtL N
def g36 : Sig := ⟨(.cons (.ptr (.cons (.cons (.ptr (.cons (.own (.int .u64)) .nl)) .nl) .nl)) (.cons (.pure (.int .i64)) (.cons (.pure (.arr 128 (.int .u64))) .nl))), .nl, ((((List Int) × Unit) × Unit) × Unit), fun x => m_arena_Arena_put x.1 x.2.1 x.2.2.1, fun _ y => (), fun _ y => (y, ((), ((), ())))⟩
def an36 : Nat → Ann := mkA [(2, ⟨[0, 1, 5, 6], [], [5, 100001], false, [(100001, [.fld 0], (.own (.int .u64)), 2001600016)]⟩)]
noncomputable def k36 (N : Nat) : Ex → St → Option ((((List Int) × Unit) × Unit) × Unit) := finK (c36 N) Try.f36 g36 (.cons (.ref 100000 []) (.cons .top (.cons .top .nl))) (fun p => p.2.1)
def a36 : Nat → Ann := annP [100000] an36
def h36_0 (u0_0 : Int) (u0_1 : Int) (u0_2 : (List Int)) (u0_3 : (List Int)) : St := ⟨22, [(0, (.ref 100000 [])), (1, (.int .i64 u0_0)), (5, (.ref 5 [])), (6, (.int .i64 u0_1))], [(100000, (.cons (.cons (.ref 100001 []) .nl) .nl)), (5, (.arr (.int .u64) 128 u0_2)), (100001, (.cons (.full 2001600016) .nl)), (2001600016, (.bk (.int .u64) u0_3))]⟩
theorem t36_0 : ∀ (N : Nat) (n : Nat) (u0_0 : Int) (u0_1 : Int) (u0_2 : (List Int)) (u0_3 : (List Int)), loopAt (c36 N) a36 [1, 1, 0] [] (codeOf Try.f36) (k36 N) n (h36_0 u0_0 u0_1 u0_2 u0_3) = m_arena_Arena_put_l0 N n u0_0 u0_1 u0_2 u0_3 := by
  intro N n
  induction n with
  | zero => intro u0_0 u0_1 u0_2 u0_3; kernel_rfl
  | succ n ih =>
    intro u0_0 u0_1 u0_2 u0_3
    have e : loopAt (c36 N) a36 [1, 1, 0] [] (codeOf Try.f36) (k36 N) (n + 1) (h36_0 u0_0 u0_1 u0_2 u0_3) = m_arena_Arena_put_l0_b (fun w0 w1 w2 w3 => loopAt (c36 N) a36 [1, 1, 0] [] (codeOf Try.f36) (k36 N) n (h36_0 w0 w1 w2 w3)) u0_0 u0_1 u0_2 u0_3 := by kernel_rfl
    refine e.trans ?_
    have es : (fun w0 w1 w2 w3 => loopAt (c36 N) a36 [1, 1, 0] [] (codeOf Try.f36) (k36 N) n (h36_0 w0 w1 w2 w3)) = m_arena_Arena_put_l0 N n := by
      funext w0 w1 w2 w3; exact ih w0 w1 w2 w3
    rw [es]
    rw [m_arena_Arena_put_l0]
theorem ew36 : ∀ (N : Nat) (x : g36.ps.den), evalFn (c36 N) an36 Try.f36 (codeOf Try.f36) g36 x (fun p => p.2.1) = m_arena_Arena_put_a (m_arena_Arena_put_l0 N N) x.1 x.2.1 x.2.2.1 := by
  intro N
  intro x
  obtain ⟨x0, x1, x2, xu⟩ := x
  have e : evalFn (c36 N) an36 Try.f36 (codeOf Try.f36) g36 (x0, x1, x2, xu) (fun p => p.2.1) = m_arena_Arena_put_a (fun w0 w1 w2 w3 => loopAt (c36 N) a36 [1, 1, 0] [] (codeOf Try.f36) (k36 N) N (h36_0 w0 w1 w2 w3)) x0 x1 x2 := by kernel_rfl
  refine e.trans ?_
  have e0 : (fun w0 w1 w2 w3 => loopAt (c36 N) a36 [1, 1, 0] [] (codeOf Try.f36) (k36 N) N (h36_0 w0 w1 w2 w3)) = m_arena_Arena_put_l0 N N := by
    funext w0 w1 w2 w3; exact t36_0 N N w0 w1 w2 w3
  rw [e0]
theorem ev36 : ∀ x : g36.ps.den, evalFn (c36 FUEL) an36 Try.f36 (codeOf Try.f36) g36 x (fun p => p.2.1) = g36.m x := fun x => ew36 FUEL x
theorem meets36 : Meets Try.prog 36 g36 :=
  meets_of (C := c36 FUEL) (ann := an36) (mkC_ok (gs := [(22, g22)]) (is := [(24, i24)]) (mt := mtL) tysOK elemOK ⟨meets22, trivial⟩ ⟨inl24, trivial⟩ mtOK FUEL) mixed Try.func36 (by kernel_rfl) (by kernel_rfl) (by kernel_rfl) (of_decide_eq_true (by kernel_rfl)) (fun p => p.2.1) (fun _ _ => ⟨rfl, rfl⟩) ev36
noncomputable def c27 (N : Nat) : Cx := mkC tyL [(22, g22), (35, g35), (36, g36)] [(24, i24), (37, i37), (38, i38)] mtL N
def g27 : Sig := ⟨(.cons (.ptr (.cons (.cons (.ptr (.cons (.own (.int .u64)) .nl)) .nl) .nl)) (.cons (.pure (.arr 128 (.int .u64))) .nl)), (.cons (.pure (.int .i64)) (.cons (.pure (.int .i64)) .nl)), (Int × Int × ((((List Int) × Unit) × Unit) × Unit)), fun x => m_arena_Arena_Alloc x.1 x.2.1, fun _ y => (y.1, (y.2.1, ())), fun _ y => (y.2.2, ((), ()))⟩
def an27 : Nat → Ann := mkA []
theorem ev27 : ∀ x : g27.ps.den, evalFn (c27 FUEL) an27 Try.f27 (codeOf Try.f27) g27 x (fun p => (p.1.1, p.1.2.1, p.2.1)) = g27.m x := by
  intro x
  obtain ⟨x0, x1, xu⟩ := x
  show _ = _
  kernel_rfl
theorem meets27 : Meets Try.prog 27 g27 :=
  meets_of (C := c27 FUEL) (ann := an27) (mkC_ok (gs := [(22, g22), (35, g35), (36, g36)]) (is := [(24, i24), (37, i37), (38, i38)]) (mt := mtL) tysOK elemOK ⟨meets22, meets35, meets36, trivial⟩ ⟨inl24, inl37, inl38, trivial⟩ mtOK FUEL) mixed Try.func27 (by kernel_rfl) (by kernel_rfl) (by kernel_rfl) (of_decide_eq_true (by kernel_rfl)) (fun p => (p.1.1, p.1.2.1, p.2.1)) (fun _ _ => ⟨rfl, rfl⟩) ev27
def c7 (N : Nat) : Cx := mkC tyL [(27, g27)] [] mtL N
def g7 : Sig := ⟨(.cons (.ptr (.cons (.cons (.ptr (.cons (.own (.int .u64)) .nl)) .nl) .nl)) (.cons (.pure (.arr 128 (.int .u64))) (.cons (.pure (.int .i64)) (.cons (.pure (.int .i64)) .nl)))), (.cons (.pure .bool) .nl), (Bool × ((((List Int) × Unit) × Unit) × Unit)), fun x => m_ticketlinelaw20_allocs x.1 x.2.1 x.2.2.1 x.2.2.2.1, fun _ y => (y.1, ()), fun _ y => (y.2, ((), ((), ((), ()))))⟩
def an7 : Nat → Ann := mkA []
theorem ev7 : ∀ x : g7.ps.den, evalFn (c7 FUEL) an7 Try.f7 (codeOf Try.f7) g7 x (fun p => (p.1.1, p.2.1)) = g7.m x := by
  intro x
  obtain ⟨x0, x1, x2, x3, xu⟩ := x
  show _ = _
  kernel_rfl
theorem meets7 : Meets Try.prog 7 g7 :=
  meets_of (C := c7 FUEL) (ann := an7) (mkC_ok (gs := [(27, g27)]) (is := []) (mt := mtL) tysOK elemOK ⟨meets27, trivial⟩ trivial mtOK FUEL) mixed Try.func7 (by kernel_rfl) (by kernel_rfl) (by kernel_rfl) (of_decide_eq_true (by kernel_rfl)) (fun p => (p.1.1, p.2.1)) (fun _ _ => ⟨rfl, rfl⟩) ev7
noncomputable def c14 (N : Nat) : Cx := mkC tyL [] [(37, i37), (38, i38)] mtL N
def g14 : Sig := ⟨(.cons (.ptr (.cons (.cons (.ptr (.cons (.own (.int .u64)) .nl)) .nl) .nl)) .nl), (.cons (.pure (.int .i64)) .nl), (Int × ((((List Int) × Unit) × Unit) × Unit)), fun x => m_arena_Arena_Root x.1, fun _ y => (y.1, ()), fun _ y => (y.2, ())⟩
def an14 : Nat → Ann := mkA []
theorem ev14 : ∀ x : g14.ps.den, evalFn (c14 FUEL) an14 Try.f14 (codeOf Try.f14) g14 x (fun p => (p.1.1, p.2.1)) = g14.m x := by
  intro x
  obtain ⟨x0, xu⟩ := x
  show _ = _
  kernel_rfl
theorem meets14 : Meets Try.prog 14 g14 :=
  meets_of (C := c14 FUEL) (ann := an14) (mkC_ok (gs := []) (is := [(37, i37), (38, i38)]) (mt := mtL) tysOK elemOK trivial ⟨inl37, inl38, trivial⟩ mtOK FUEL) mixed Try.func14 (by kernel_rfl) (by kernel_rfl) (by kernel_rfl) (of_decide_eq_true (by kernel_rfl)) (fun p => (p.1.1, p.2.1)) (fun _ _ => ⟨rfl, rfl⟩) ev14
noncomputable def c50 (N : Nat) : Cx := mkC tyL [(40, g40)] [(37, i37)] mtL N
noncomputable def i50 : List AV → Nat → Pg AV := inlPg (c50 0) Try.f50 (codeOf Try.f50)
theorem inl50 : Inlines Try.prog 50 i50 := inlines (C := c50 0) (mkC_ok (gs := [(40, g40)]) (is := [(37, i37)]) (mt := mtL) tysOK elemOK ⟨meets40, trivial⟩ ⟨inl37, trivial⟩ mtOK 0) mixed Try.func50 (by kernel_rfl) (by kernel_rfl)
noncomputable def c30 (N : Nat) : Cx := mkC tyL [(14, g14), (41, g41)] [(50, i50)] mtL N
def g30 : Sig := ⟨(.cons (.ptr (.cons (.cons (.ptr (.cons (.own (.int .u64)) .nl)) .nl) .nl)) (.cons (.pure (.int .i64)) (.cons (.pure .bool) .nl))), (.cons (.pure (.int .i64)) .nl), (Int × ((((List Int) × Unit) × Unit) × Unit)), fun x => m_arena_Arena_busy x.1 x.2.1 x.2.2.1, fun _ y => (y.1, ()), fun _ y => (y.2, ((), ((), ())))⟩
def an30 : Nat → Ann := mkA []
theorem ev30 : ∀ x : g30.ps.den, evalFn (c30 FUEL) an30 Try.f30 (codeOf Try.f30) g30 x (fun p => (p.1.1, p.2.1)) = g30.m x := by
  intro x
  obtain ⟨x0, x1, x2, xu⟩ := x
  show _ = _
  kernel_rfl
theorem meets30 : Meets Try.prog 30 g30 :=
  meets_of (C := c30 FUEL) (ann := an30) (mkC_ok (gs := [(14, g14), (41, g41)]) (is := [(50, i50)]) (mt := mtL) tysOK elemOK ⟨meets14, meets41, trivial⟩ ⟨inl50, trivial⟩ mtOK FUEL) mixed Try.func30 (by kernel_rfl) (by kernel_rfl) (by kernel_rfl) (of_decide_eq_true (by kernel_rfl)) (fun p => (p.1.1, p.2.1)) (fun _ _ => ⟨rfl, rfl⟩) ev30
noncomputable def c31 (N : Nat) : Cx := mkC tyL [(36, g36)] [(24, i24), (38, i38)] mtL N
def g31 : Sig := ⟨(.cons (.ptr (.cons (.cons (.ptr (.cons (.own (.int .u64)) .nl)) .nl) .nl)) (.cons (.pure (.int .i64)) .nl)), .nl, ((((List Int) × Unit) × Unit) × Unit), fun x => m_arena_Arena_free x.1 x.2.1, fun _ y => (), fun _ y => (y, ((), ()))⟩
def an31 : Nat → Ann := mkA []
theorem ev31 : ∀ x : g31.ps.den, evalFn (c31 FUEL) an31 Try.f31 (codeOf Try.f31) g31 x (fun p => p.2.1) = g31.m x := by
  intro x
  obtain ⟨x0, x1, xu⟩ := x
  show _ = _
  kernel_rfl
theorem meets31 : Meets Try.prog 31 g31 :=
  meets_of (C := c31 FUEL) (ann := an31) (mkC_ok (gs := [(36, g36)]) (is := [(24, i24), (38, i38)]) (mt := mtL) tysOK elemOK ⟨meets36, trivial⟩ ⟨inl24, inl38, trivial⟩ mtOK FUEL) mixed Try.func31 (by kernel_rfl) (by kernel_rfl) (by kernel_rfl) (of_decide_eq_true (by kernel_rfl)) (fun p => p.2.1) (fun _ _ => ⟨rfl, rfl⟩) ev31
def c9 (N : Nat) : Cx := mkC tyL [(30, g30), (31, g31)] [] mtL N
def g9 : Sig := ⟨(.cons (.ptr (.cons (.cons (.ptr (.cons (.own (.int .u64)) .nl)) .nl) .nl)) (.cons (.pure (.int .i64)) .nl)), (.cons (.pure (.int .i64)) .nl), (Int × ((((List Int) × Unit) × Unit) × Unit)), fun x => m_arena_Arena_Release x.1 x.2.1, fun _ y => (y.1, ()), fun _ y => (y.2, ((), ()))⟩
def an9 : Nat → Ann := mkA []
theorem ev9 : ∀ x : g9.ps.den, evalFn (c9 FUEL) an9 Try.f9 (codeOf Try.f9) g9 x (fun p => (p.1.1, p.2.1)) = g9.m x := by
  intro x
  obtain ⟨x0, x1, xu⟩ := x
  show _ = _
  kernel_rfl
theorem meets9 : Meets Try.prog 9 g9 :=
  meets_of (C := c9 FUEL) (ann := an9) (mkC_ok (gs := [(30, g30), (31, g31)]) (is := []) (mt := mtL) tysOK elemOK ⟨meets30, meets31, trivial⟩ trivial mtOK FUEL) mixed Try.func9 (by kernel_rfl) (by kernel_rfl) (by kernel_rfl) (of_decide_eq_true (by kernel_rfl)) (fun p => (p.1.1, p.2.1)) (fun _ _ => ⟨rfl, rfl⟩) ev9
noncomputable def c32 (N : Nat) : Cx := mkC tyL [(30, g30), (36, g36)] [(24, i24), (38, i38)] mtL N
def g32 : Sig := ⟨(.cons (.ptr (.cons (.cons (.ptr (.cons (.own (.int .u64)) .nl)) .nl) .nl)) (.cons (.pure (.int .i64)) .nl)), (.cons (.pure (.int .i64)) (.cons (.pure (.int .i64)) .nl)), (Int × Int × ((((List Int) × Unit) × Unit) × Unit)), fun x => m_arena_Arena_Defer x.1 x.2.1, fun _ y => (y.1, (y.2.1, ())), fun _ y => (y.2.2, ((), ()))⟩
def an32 : Nat → Ann := mkA []
theorem ev32 : ∀ x : g32.ps.den, evalFn (c32 FUEL) an32 Try.f32 (codeOf Try.f32) g32 x (fun p => (p.1.1, p.1.2.1, p.2.1)) = g32.m x := by
  intro x
  obtain ⟨x0, x1, xu⟩ := x
  show _ = _
  kernel_rfl
theorem meets32 : Meets Try.prog 32 g32 :=
  meets_of (C := c32 FUEL) (ann := an32) (mkC_ok (gs := [(30, g30), (36, g36)]) (is := [(24, i24), (38, i38)]) (mt := mtL) tysOK elemOK ⟨meets30, meets36, trivial⟩ ⟨inl24, inl38, trivial⟩ mtOK FUEL) mixed Try.func32 (by kernel_rfl) (by kernel_rfl) (by kernel_rfl) (of_decide_eq_true (by kernel_rfl)) (fun p => (p.1.1, p.1.2.1, p.2.1)) (fun _ _ => ⟨rfl, rfl⟩) ev32
def c10 (N : Nat) : Cx := mkC tyL [(32, g32)] [] mtL N
def g10 : Sig := ⟨(.cons (.ptr (.cons (.cons (.ptr (.cons (.own (.int .u64)) .nl)) .nl) .nl)) (.cons (.pure (.int .i64)) (.cons (.pure (.int .i64)) (.cons (.pure (.int .i64)) .nl)))), (.cons (.pure .bool) .nl), (Bool × ((((List Int) × Unit) × Unit) × Unit)), fun x => m_ticketlinelaw20_defers x.1 x.2.1 x.2.2.1 x.2.2.2.1, fun _ y => (y.1, ()), fun _ y => (y.2, ((), ((), ((), ()))))⟩
def an10 : Nat → Ann := mkA []
theorem ev10 : ∀ x : g10.ps.den, evalFn (c10 FUEL) an10 Try.f10 (codeOf Try.f10) g10 x (fun p => (p.1.1, p.2.1)) = g10.m x := by
  intro x
  obtain ⟨x0, x1, x2, x3, xu⟩ := x
  show _ = _
  kernel_rfl
theorem meets10 : Meets Try.prog 10 g10 :=
  meets_of (C := c10 FUEL) (ann := an10) (mkC_ok (gs := [(32, g32)]) (is := []) (mt := mtL) tysOK elemOK ⟨meets32, trivial⟩ trivial mtOK FUEL) mixed Try.func10 (by kernel_rfl) (by kernel_rfl) (by kernel_rfl) (of_decide_eq_true (by kernel_rfl)) (fun p => (p.1.1, p.2.1)) (fun _ _ => ⟨rfl, rfl⟩) ev10
noncomputable def c33 (N : Nat) : Cx := mkC tyL [(22, g22), (31, g31), (48, g48)] [(24, i24), (37, i37), (38, i38)] mtL N
def g33 : Sig := ⟨(.cons (.ptr (.cons (.cons (.ptr (.cons (.own (.int .u64)) .nl)) .nl) .nl)) (.cons (.pure (.int .i64)) .nl)), (.cons (.pure (.int .i64)) (.cons (.pure (.int .i64)) .nl)), (Int × Int × ((((List Int) × Unit) × Unit) × Unit)), fun x => m_arena_Arena_Reclaim x.1 x.2.1, fun _ y => (y.1, (y.2.1, ())), fun _ y => (y.2.2, ((), ()))⟩
def an33 : Nat → Ann := mkA [(8, ⟨[0, 1, 8, 9, 27, 28, 29], [], [200770], false, [(100000, [.fld 0, .fld 0], (.ptr (.cons (.own (.int .u64)) .nl)), 2001600000)]⟩)]
noncomputable def k33 (N : Nat) : Ex → St → Option (Int × Int × ((((List Int) × Unit) × Unit) × Unit)) := finK (c33 N) Try.f33 g33 (.cons (.ref 100000 []) (.cons .top .nl)) (fun p => (p.1.1, p.1.2.1, p.2.1))
def a33 : Nat → Ann := annP [100000] an33
def h33_0 (u0_0 : Int) (u0_1 : Int) (u0_2 : Int) (u0_3 : Int) (u0_4 : Int) (u0_5 : (List Int)) (u0_6 : (List Int)) : St := ⟨65, [(0, (.ref 100000 [])), (1, (.int .i64 u0_0)), (8, (.int .i64 u0_1)), (9, (.int .i64 u0_2)), (27, (.full 200770)), (28, (.int .i64 u0_3)), (29, (.int .i64 u0_4))], [(100000, (.cons (.cons (.ref 2001600000 []) .nl) .nl)), (200770, (.bk (.int .i64) u0_5)), (2001600000, (.cons (.full 2001600001) .nl)), (2001600001, (.bk (.int .u64) u0_6))]⟩
theorem t33_0 : ∀ (N : Nat) (n : Nat) (u0_0 : Int) (u0_1 : Int) (u0_2 : Int) (u0_3 : Int) (u0_4 : Int) (u0_5 : (List Int)) (u0_6 : (List Int)), loopAt (c33 N) a33 [1, 1, 1, 1, 0, 1, 0] [] (codeOf Try.f33) (k33 N) n (h33_0 u0_0 u0_1 u0_2 u0_3 u0_4 u0_5 u0_6) = m_arena_Arena_Reclaim_l0 N n u0_0 u0_1 u0_2 u0_3 u0_4 u0_5 u0_6 := by
  intro N n
  induction n with
  | zero => intro u0_0 u0_1 u0_2 u0_3 u0_4 u0_5 u0_6; kernel_rfl
  | succ n ih =>
    intro u0_0 u0_1 u0_2 u0_3 u0_4 u0_5 u0_6
    have e : loopAt (c33 N) a33 [1, 1, 1, 1, 0, 1, 0] [] (codeOf Try.f33) (k33 N) (n + 1) (h33_0 u0_0 u0_1 u0_2 u0_3 u0_4 u0_5 u0_6) = m_arena_Arena_Reclaim_l0_b (fun w0 w1 w2 w3 w4 w5 w6 => loopAt (c33 N) a33 [1, 1, 1, 1, 0, 1, 0] [] (codeOf Try.f33) (k33 N) n (h33_0 w0 w1 w2 w3 w4 w5 w6)) u0_0 u0_1 u0_2 u0_3 u0_4 u0_5 u0_6 := by kernel_rfl
    refine e.trans ?_
    have es : (fun w0 w1 w2 w3 w4 w5 w6 => loopAt (c33 N) a33 [1, 1, 1, 1, 0, 1, 0] [] (codeOf Try.f33) (k33 N) n (h33_0 w0 w1 w2 w3 w4 w5 w6)) = m_arena_Arena_Reclaim_l0 N n := by
      funext w0 w1 w2 w3 w4 w5 w6; exact ih w0 w1 w2 w3 w4 w5 w6
    rw [es]
    rw [m_arena_Arena_Reclaim_l0]
theorem ew33 : ∀ (N : Nat) (x : g33.ps.den), evalFn (c33 N) an33 Try.f33 (codeOf Try.f33) g33 x (fun p => (p.1.1, p.1.2.1, p.2.1)) = m_arena_Arena_Reclaim_a (m_arena_Arena_Reclaim_l0 N N) x.1 x.2.1 := by
  intro N
  intro x
  obtain ⟨x0, x1, xu⟩ := x
  have e : evalFn (c33 N) an33 Try.f33 (codeOf Try.f33) g33 (x0, x1, xu) (fun p => (p.1.1, p.1.2.1, p.2.1)) = m_arena_Arena_Reclaim_a (fun w0 w1 w2 w3 w4 w5 w6 => loopAt (c33 N) a33 [1, 1, 1, 1, 0, 1, 0] [] (codeOf Try.f33) (k33 N) N (h33_0 w0 w1 w2 w3 w4 w5 w6)) x0 x1 := by kernel_rfl
  refine e.trans ?_
  have e0 : (fun w0 w1 w2 w3 w4 w5 w6 => loopAt (c33 N) a33 [1, 1, 1, 1, 0, 1, 0] [] (codeOf Try.f33) (k33 N) N (h33_0 w0 w1 w2 w3 w4 w5 w6)) = m_arena_Arena_Reclaim_l0 N N := by
    funext w0 w1 w2 w3 w4 w5 w6; exact t33_0 N N w0 w1 w2 w3 w4 w5 w6
  rw [e0]
theorem ev33 : ∀ x : g33.ps.den, evalFn (c33 FUEL) an33 Try.f33 (codeOf Try.f33) g33 x (fun p => (p.1.1, p.1.2.1, p.2.1)) = g33.m x := fun x => ew33 FUEL x
theorem meets33 : Meets Try.prog 33 g33 :=
  meets_of (C := c33 FUEL) (ann := an33) (mkC_ok (gs := [(22, g22), (31, g31), (48, g48)]) (is := [(24, i24), (37, i37), (38, i38)]) (mt := mtL) tysOK elemOK ⟨meets22, meets31, meets48, trivial⟩ ⟨inl24, inl37, inl38, trivial⟩ mtOK FUEL) mixed Try.func33 (by kernel_rfl) (by kernel_rfl) (by kernel_rfl) (of_decide_eq_true (by kernel_rfl)) (fun p => (p.1.1, p.1.2.1, p.2.1)) (fun _ _ => ⟨rfl, rfl⟩) ev33
def c11 (N : Nat) : Cx := mkC tyL [(33, g33)] [] mtL N
def g11 : Sig := ⟨(.cons (.ptr (.cons (.cons (.ptr (.cons (.own (.int .u64)) .nl)) .nl) .nl)) (.cons (.pure (.int .i64)) (.cons (.pure (.int .i64)) (.cons (.pure (.int .i64)) .nl)))), (.cons (.pure .bool) .nl), (Bool × ((((List Int) × Unit) × Unit) × Unit)), fun x => m_ticketlinelaw20_reclaims x.1 x.2.1 x.2.2.1 x.2.2.2.1, fun _ y => (y.1, ()), fun _ y => (y.2, ((), ((), ((), ()))))⟩
def an11 : Nat → Ann := mkA []
theorem ev11 : ∀ x : g11.ps.den, evalFn (c11 FUEL) an11 Try.f11 (codeOf Try.f11) g11 x (fun p => (p.1.1, p.2.1)) = g11.m x := by
  intro x
  obtain ⟨x0, x1, x2, x3, xu⟩ := x
  show _ = _
  kernel_rfl
theorem meets11 : Meets Try.prog 11 g11 :=
  meets_of (C := c11 FUEL) (ann := an11) (mkC_ok (gs := [(33, g33)]) (is := []) (mt := mtL) tysOK elemOK ⟨meets33, trivial⟩ trivial mtOK FUEL) mixed Try.func11 (by kernel_rfl) (by kernel_rfl) (by kernel_rfl) (of_decide_eq_true (by kernel_rfl)) (fun p => (p.1.1, p.2.1)) (fun _ _ => ⟨rfl, rfl⟩) ev11
noncomputable def c34 (N : Nat) : Cx := mkC tyL [(22, g22)] [(38, i38), (50, i50)] mtL N
def g34 : Sig := ⟨(.cons (.ptr (.cons (.cons (.ptr (.cons (.own (.int .u64)) .nl)) .nl) .nl)) (.cons (.pure (.int .i64)) .nl)), (.cons (.pure (.arr 128 (.int .u64))) (.cons (.pure (.int .i64)) .nl)), ((List Int) × Int × ((((List Int) × Unit) × Unit) × Unit)), fun x => m_arena_Arena_Read x.1 x.2.1, fun _ y => (y.1, (y.2.1, ())), fun _ y => (y.2.2, ((), ()))⟩
def an34 : Nat → Ann := mkA [(6, ⟨[0, 1, 4, 6, 16], [], [4, 6, 1011200448], false, [(1011200448, [.fld 0], (.own (.int .u64)), 18179207168)]⟩)]
noncomputable def k34 (N : Nat) : Ex → St → Option ((List Int) × Int × ((((List Int) × Unit) × Unit) × Unit)) := finK (c34 N) Try.f34 g34 (.cons (.ref 100000 []) (.cons .top .nl)) (fun p => (p.1.1, p.1.2.1, p.2.1))
def a34 : Nat → Ann := annP [100000] an34
def h34_0 (u0_0 : Int) (u0_1 : Int) (u0_2 : (List Int)) (u0_3 : (List Int)) (u0_4 : (List Int)) : St := ⟨31, [(0, (.ref 100000 [])), (1, (.int .i64 u0_0)), (4, (.ref 4 [])), (6, (.ref 6 [])), (16, (.int .i64 u0_1))], [(100000, (.cons (.cons (.ref 1011200448 []) .nl) .nl)), (4, (.arr (.int .u64) 128 u0_2)), (6, (.arr (.int .u64) 128 u0_3)), (1011200448, (.cons (.full 18179207168) .nl)), (18179207168, (.bk (.int .u64) u0_4))]⟩
theorem t34_0 : ∀ (N : Nat) (n : Nat) (u0_0 : Int) (u0_1 : Int) (u0_2 : (List Int)) (u0_3 : (List Int)) (u0_4 : (List Int)), loopAt (c34 N) a34 [1, 1, 1, 0, 1, 0] [] (codeOf Try.f34) (k34 N) n (h34_0 u0_0 u0_1 u0_2 u0_3 u0_4) = m_arena_Arena_Read_l0 N n u0_0 u0_1 u0_2 u0_3 u0_4 := by
  intro N n
  induction n with
  | zero => intro u0_0 u0_1 u0_2 u0_3 u0_4; kernel_rfl
  | succ n ih =>
    intro u0_0 u0_1 u0_2 u0_3 u0_4
    have e : loopAt (c34 N) a34 [1, 1, 1, 0, 1, 0] [] (codeOf Try.f34) (k34 N) (n + 1) (h34_0 u0_0 u0_1 u0_2 u0_3 u0_4) = m_arena_Arena_Read_l0_b (fun w0 w1 w2 w3 w4 => loopAt (c34 N) a34 [1, 1, 1, 0, 1, 0] [] (codeOf Try.f34) (k34 N) n (h34_0 w0 w1 w2 w3 w4)) u0_0 u0_1 u0_2 u0_3 u0_4 := by kernel_rfl
    refine e.trans ?_
    have es : (fun w0 w1 w2 w3 w4 => loopAt (c34 N) a34 [1, 1, 1, 0, 1, 0] [] (codeOf Try.f34) (k34 N) n (h34_0 w0 w1 w2 w3 w4)) = m_arena_Arena_Read_l0 N n := by
      funext w0 w1 w2 w3 w4; exact ih w0 w1 w2 w3 w4
    rw [es]
    rw [m_arena_Arena_Read_l0]
theorem ew34 : ∀ (N : Nat) (x : g34.ps.den), evalFn (c34 N) an34 Try.f34 (codeOf Try.f34) g34 x (fun p => (p.1.1, p.1.2.1, p.2.1)) = m_arena_Arena_Read_a (m_arena_Arena_Read_l0 N N) x.1 x.2.1 := by
  intro N
  intro x
  obtain ⟨x0, x1, xu⟩ := x
  have e : evalFn (c34 N) an34 Try.f34 (codeOf Try.f34) g34 (x0, x1, xu) (fun p => (p.1.1, p.1.2.1, p.2.1)) = m_arena_Arena_Read_a (fun w0 w1 w2 w3 w4 => loopAt (c34 N) a34 [1, 1, 1, 0, 1, 0] [] (codeOf Try.f34) (k34 N) N (h34_0 w0 w1 w2 w3 w4)) x0 x1 := by kernel_rfl
  refine e.trans ?_
  have e0 : (fun w0 w1 w2 w3 w4 => loopAt (c34 N) a34 [1, 1, 1, 0, 1, 0] [] (codeOf Try.f34) (k34 N) N (h34_0 w0 w1 w2 w3 w4)) = m_arena_Arena_Read_l0 N N := by
    funext w0 w1 w2 w3 w4; exact t34_0 N N w0 w1 w2 w3 w4
  rw [e0]
theorem ev34 : ∀ x : g34.ps.den, evalFn (c34 FUEL) an34 Try.f34 (codeOf Try.f34) g34 x (fun p => (p.1.1, p.1.2.1, p.2.1)) = g34.m x := fun x => ew34 FUEL x
theorem meets34 : Meets Try.prog 34 g34 :=
  meets_of (C := c34 FUEL) (ann := an34) (mkC_ok (gs := [(22, g22)]) (is := [(38, i38), (50, i50)]) (mt := mtL) tysOK elemOK ⟨meets22, trivial⟩ ⟨inl38, inl50, trivial⟩ mtOK FUEL) mixed Try.func34 (by kernel_rfl) (by kernel_rfl) (by kernel_rfl) (of_decide_eq_true (by kernel_rfl)) (fun p => (p.1.1, p.1.2.1, p.2.1)) (fun _ _ => ⟨rfl, rfl⟩) ev34
def c12 (N : Nat) : Cx := mkC tyL [(34, g34)] [] mtL N
def g12 : Sig := ⟨(.cons (.ptr (.cons (.cons (.ptr (.cons (.own (.int .u64)) .nl)) .nl) .nl)) (.cons (.pure (.int .i64)) (.cons (.pure (.arr 128 (.int .u64))) (.cons (.pure (.int .i64)) .nl)))), (.cons (.pure .bool) .nl), (Bool × ((((List Int) × Unit) × Unit) × Unit)), fun x => m_ticketlinelaw20_reads x.1 x.2.1 x.2.2.1 x.2.2.2.1, fun _ y => (y.1, ()), fun _ y => (y.2, ((), ((), ((), ()))))⟩
def an12 : Nat → Ann := mkA []
theorem ev12 : ∀ x : g12.ps.den, evalFn (c12 FUEL) an12 Try.f12 (codeOf Try.f12) g12 x (fun p => (p.1.1, p.2.1)) = g12.m x := by
  intro x
  obtain ⟨x0, x1, x2, x3, xu⟩ := x
  show _ = _
  kernel_rfl
theorem meets12 : Meets Try.prog 12 g12 :=
  meets_of (C := c12 FUEL) (ann := an12) (mkC_ok (gs := [(34, g34)]) (is := []) (mt := mtL) tysOK elemOK ⟨meets34, trivial⟩ trivial mtOK FUEL) mixed Try.func12 (by kernel_rfl) (by kernel_rfl) (by kernel_rfl) (of_decide_eq_true (by kernel_rfl)) (fun p => (p.1.1, p.2.1)) (fun _ _ => ⟨rfl, rfl⟩) ev12
def c13 (N : Nat) : Cx := mkC tyL [(30, g30), (35, g35), (36, g36)] [] mtL N
def g13 : Sig := ⟨(.cons (.ptr (.cons (.cons (.ptr (.cons (.own (.int .u64)) .nl)) .nl) .nl)) (.cons (.pure (.int .i64)) (.cons (.pure (.arr 128 (.int .u64))) .nl))), (.cons (.pure (.int .i64)) .nl), (Int × ((((List Int) × Unit) × Unit) × Unit)), fun x => m_arena_Arena_Write x.1 x.2.1 x.2.2.1, fun _ y => (y.1, ()), fun _ y => (y.2, ((), ((), ())))⟩
def an13 : Nat → Ann := mkA []
theorem ev13 : ∀ x : g13.ps.den, evalFn (c13 FUEL) an13 Try.f13 (codeOf Try.f13) g13 x (fun p => (p.1.1, p.2.1)) = g13.m x := by
  intro x
  obtain ⟨x0, x1, x2, xu⟩ := x
  show _ = _
  kernel_rfl
theorem meets13 : Meets Try.prog 13 g13 :=
  meets_of (C := c13 FUEL) (ann := an13) (mkC_ok (gs := [(30, g30), (35, g35), (36, g36)]) (is := []) (mt := mtL) tysOK elemOK ⟨meets30, meets35, meets36, trivial⟩ trivial mtOK FUEL) mixed Try.func13 (by kernel_rfl) (by kernel_rfl) (by kernel_rfl) (of_decide_eq_true (by kernel_rfl)) (fun p => (p.1.1, p.2.1)) (fun _ _ => ⟨rfl, rfl⟩) ev13
noncomputable def c15 (N : Nat) : Cx := mkC tyL [(30, g30)] [(24, i24), (37, i37)] mtL N
def g15 : Sig := ⟨(.cons (.ptr (.cons (.cons (.ptr (.cons (.own (.int .u64)) .nl)) .nl) .nl)) (.cons (.pure (.int .i64)) .nl)), (.cons (.pure (.int .i64)) .nl), (Int × ((((List Int) × Unit) × Unit) × Unit)), fun x => m_arena_Arena_SetRoot x.1 x.2.1, fun _ y => (y.1, ()), fun _ y => (y.2, ((), ()))⟩
def an15 : Nat → Ann := mkA []
theorem ev15 : ∀ x : g15.ps.den, evalFn (c15 FUEL) an15 Try.f15 (codeOf Try.f15) g15 x (fun p => (p.1.1, p.2.1)) = g15.m x := by
  intro x
  obtain ⟨x0, x1, xu⟩ := x
  show _ = _
  kernel_rfl
theorem meets15 : Meets Try.prog 15 g15 :=
  meets_of (C := c15 FUEL) (ann := an15) (mkC_ok (gs := [(30, g30)]) (is := [(24, i24), (37, i37)]) (mt := mtL) tysOK elemOK ⟨meets30, trivial⟩ ⟨inl24, inl37, trivial⟩ mtOK FUEL) mixed Try.func15 (by kernel_rfl) (by kernel_rfl) (by kernel_rfl) (of_decide_eq_true (by kernel_rfl)) (fun p => (p.1.1, p.2.1)) (fun _ _ => ⟨rfl, rfl⟩) ev15
def c16 (N : Nat) : Cx := mkC tyL [(39, g39)] [] mtL N
def g16 : Sig := ⟨(.cons (.ptr (.cons (.cons (.ptr (.cons (.own (.int .u64)) .nl)) .nl) .nl)) (.cons (.pure (.int .i64)) (.cons (.pure (.int .i64)) (.cons (.pure (.int .i64)) (.cons (.pure (.int .i64)) .nl))))), (.cons (.pure .bool) .nl), (Bool × ((((List Int) × Unit) × Unit) × Unit)), fun x => m_ticketlinelaw20_counts x.1 x.2.1 x.2.2.1 x.2.2.2.1 x.2.2.2.2.1, fun _ y => (y.1, ()), fun _ y => (y.2, ((), ((), ((), ((), ())))))⟩
def an16 : Nat → Ann := mkA []
theorem ev16 : ∀ x : g16.ps.den, evalFn (c16 FUEL) an16 Try.f16 (codeOf Try.f16) g16 x (fun p => (p.1.1, p.2.1)) = g16.m x := by
  intro x
  obtain ⟨x0, x1, x2, x3, x4, xu⟩ := x
  show _ = _
  kernel_rfl
theorem meets16 : Meets Try.prog 16 g16 :=
  meets_of (C := c16 FUEL) (ann := an16) (mkC_ok (gs := [(39, g39)]) (is := []) (mt := mtL) tysOK elemOK ⟨meets39, trivial⟩ trivial mtOK FUEL) mixed Try.func16 (by kernel_rfl) (by kernel_rfl) (by kernel_rfl) (of_decide_eq_true (by kernel_rfl)) (fun p => (p.1.1, p.2.1)) (fun _ _ => ⟨rfl, rfl⟩) ev16
def c53 (N : Nat) : Cx := mkC tyL [] [] mtL N
def g53 : Sig := ⟨(.cons (.pure (.int .i64)) .nl), (.cons (.nptr (.cons (.own (.int .u64)) .nl)) (.cons (.pure (.int .i64)) .nl)), ((Option ((List Int) × Unit)) × Int), fun x => m_mem_New x.1, fun _ y => (y.1, (y.2, ())), fun _ y => ((), ())⟩
def an53 : Nat → Ann := mkA []
theorem ev53 : ∀ x : g53.ps.den, evalFn (c53 FUEL) an53 Try.f53 (codeOf Try.f53) g53 x (fun p => (p.1.1, p.1.2.1)) = g53.m x := by
  intro x
  obtain ⟨x0, xu⟩ := x
  show _ = _
  kernel_rfl
theorem meets53 : Meets Try.prog 53 g53 :=
  meets_of (C := c53 FUEL) (ann := an53) (mkC_ok (gs := []) (is := []) (mt := mtL) tysOK elemOK trivial trivial mtOK FUEL) mixed Try.func53 (by kernel_rfl) (by kernel_rfl) (by kernel_rfl) (of_decide_eq_true (by kernel_rfl)) (fun p => (p.1.1, p.1.2.1)) (fun _ _ => ⟨rfl, rfl⟩) ev53
def c42 (N : Nat) : Cx := mkC tyL [(53, g53)] [] mtL N
def g42 : Sig := ⟨(.cons (.pure (.int .i64)) .nl), (.cons (.ptr (.cons (.own (.int .u64)) .nl)) .nl), ((List Int) × Unit), fun x => m_ticketlinelaw20_memory x.1, fun _ y => (y, ()), fun _ y => ((), ())⟩
def an42 : Nat → Ann := mkA []
theorem ev42 : ∀ x : g42.ps.den, evalFn (c42 FUEL) an42 Try.f42 (codeOf Try.f42) g42 x (fun p => p.1.1) = g42.m x := by
  intro x
  obtain ⟨x0, xu⟩ := x
  show _ = _
  kernel_rfl
theorem meets42 : Meets Try.prog 42 g42 :=
  meets_of (C := c42 FUEL) (ann := an42) (mkC_ok (gs := [(53, g53)]) (is := []) (mt := mtL) tysOK elemOK ⟨meets53, trivial⟩ trivial mtOK FUEL) mixed Try.func42 (by kernel_rfl) (by kernel_rfl) (by kernel_rfl) (of_decide_eq_true (by kernel_rfl)) (fun p => p.1.1) (fun _ _ => ⟨rfl, rfl⟩) ev42
def c54 (N : Nat) : Cx := mkC tyL [(22, g22)] [] mtL N
def g54 : Sig := ⟨(.cons (.pure (.int .i64)) (.cons (.pure (.int .i64)) .nl)), (.cons (.pure (.int .i64)) (.cons (.pure (.int .i64)) .nl)), (Int × Int), fun x => m_arena_Word x.1 x.2.1, fun _ y => (y.1, (y.2, ())), fun _ y => ((), ((), ()))⟩
def an54 : Nat → Ann := mkA []
theorem ev54 : ∀ x : g54.ps.den, evalFn (c54 FUEL) an54 Try.f54 (codeOf Try.f54) g54 x (fun p => (p.1.1, p.1.2.1)) = g54.m x := by
  intro x
  obtain ⟨x0, x1, xu⟩ := x
  show _ = _
  kernel_rfl
theorem meets54 : Meets Try.prog 54 g54 :=
  meets_of (C := c54 FUEL) (ann := an54) (mkC_ok (gs := [(22, g22)]) (is := []) (mt := mtL) tysOK elemOK ⟨meets22, trivial⟩ trivial mtOK FUEL) mixed Try.func54 (by kernel_rfl) (by kernel_rfl) (by kernel_rfl) (of_decide_eq_true (by kernel_rfl)) (fun p => (p.1.1, p.1.2.1)) (fun _ _ => ⟨rfl, rfl⟩) ev54
def c43 (N : Nat) : Cx := mkC tyL [(54, g54)] [] mtL N
def g43 : Sig := ⟨(.cons (.pure (.int .i64)) (.cons (.pure (.int .i64)) (.cons (.pure (.int .i64)) (.cons (.pure (.int .i64)) .nl)))), (.cons (.pure .bool) .nl), Bool, fun x => m_ticketlinelaw20_word x.1 x.2.1 x.2.2.1 x.2.2.2.1, fun _ y => (y, ()), fun _ y => ((), ((), ((), ((), ()))))⟩
def an43 : Nat → Ann := mkA []
theorem ev43 : ∀ x : g43.ps.den, evalFn (c43 FUEL) an43 Try.f43 (codeOf Try.f43) g43 x (fun p => p.1.1) = g43.m x := by
  intro x
  obtain ⟨x0, x1, x2, x3, xu⟩ := x
  show _ = _
  kernel_rfl
theorem meets43 : Meets Try.prog 43 g43 :=
  meets_of (C := c43 FUEL) (ann := an43) (mkC_ok (gs := [(54, g54)]) (is := []) (mt := mtL) tysOK elemOK ⟨meets54, trivial⟩ trivial mtOK FUEL) mixed Try.func43 (by kernel_rfl) (by kernel_rfl) (by kernel_rfl) (of_decide_eq_true (by kernel_rfl)) (fun p => p.1.1) (fun _ _ => ⟨rfl, rfl⟩) ev43

end Go.Proofs.Ytbmdoalneeeonab
