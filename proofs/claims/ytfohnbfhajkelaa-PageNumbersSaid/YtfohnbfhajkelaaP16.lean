/- A part of the proof of a statement of this seat: the functions keep their promises. No condition. -/
import Derived.Test.YtfohnbfhajkelaaM16
import Derived.Test.YtfohnbfhajkelaaChecked
set_option linter.unusedVariables false
set_option maxRecDepth 100000
namespace Go.Proofs.Ytfohnbfhajkelaa
open Go Go.Ev Go.Ev.M Go.Proofs
def tyL : List (Nat × TI) := [
  (3, ⟨(.int .i64), 1, 8, (.int .i64 (0 : Int)), some (.int .i64), false⟩),
  (4, ⟨.bool, 1, 1, (.bool false), some .bool, false⟩),
  (5, ⟨(.int .u8), 1, 1, (.int .u8 (0 : Int)), some (.int .u8), false⟩),
  (9, ⟨.str, 1, 16, (.str (⟨#[]⟩ : ByteArray)), some .str, false⟩),
  (22, ⟨(.sl 35), 1, 24, .nils, some (.sl (.pair .str (.pair .str .nl))), false⟩),
  (23, ⟨(.sl 5), 1, 24, .nils, some (.sl (.int .u8)), false⟩),
  (24, ⟨(.sl 71), 1, 24, .nils, some (.sl (.pair (.int .u8) (.pair (.int .u64) .nl))), false⟩),
  (26, ⟨(.st [(3, 0), (3, 1), (9, 2), (9, 3), (22, 4), (23, 5), (24, 6)]), 7, 120, (.cons (.int .i64 (0 : Int)) (.cons (.int .i64 (0 : Int)) (.cons (.str (⟨#[]⟩ : ByteArray)) (.cons (.str (⟨#[]⟩ : ByteArray)) (.cons .nils (.cons .nils (.cons .nils .nl))))))), some (.pair (.int .i64) (.pair (.int .i64) (.pair .str (.pair .str (.pair (.sl (.pair .str (.pair .str .nl))) (.pair (.sl (.int .u8)) (.pair (.sl (.pair (.int .u8) (.pair (.int .u64) .nl))) .nl))))))), false⟩),
  (27, ⟨(.int .u64), 1, 8, (.int .u64 (0 : Int)), some (.int .u64), false⟩),
  (29, ⟨(.arr 128 27), 128, 1024, (.arr (.int .u64) 128 (List.replicate 128 (0 : Int))), some (.arr 128 (.int .u64)), true⟩),
  (35, ⟨(.st [(9, 0), (9, 1)]), 2, 32, (.cons (.str (⟨#[]⟩ : ByteArray)) (.cons (.str (⟨#[]⟩ : ByteArray)) .nl)), some (.pair .str (.pair .str .nl)), true⟩),
  (37, ⟨(.sl 41), 1, 24, .nils, some (.sl (.pair (.int .i64) (.pair .bool (.pair (.int .u8) (.pair .str (.pair .str .nl)))))), false⟩),
  (38, ⟨(.int .i64), 1, 8, (.int .i64 (0 : Int)), some (.int .i64), false⟩),
  (41, ⟨(.st [(3, 0), (4, 1), (5, 2), (9, 3), (9, 4)]), 5, 48, (.cons (.int .i64 (0 : Int)) (.cons (.bool false) (.cons (.int .u8 (0 : Int)) (.cons (.str (⟨#[]⟩ : ByteArray)) (.cons (.str (⟨#[]⟩ : ByteArray)) .nl))))), some (.pair (.int .i64) (.pair .bool (.pair (.int .u8) (.pair .str (.pair .str .nl))))), false⟩),
  (61, ⟨(.sl 9), 1, 24, .nils, some (.sl .str), false⟩),
  (71, ⟨(.st [(5, 0), (27, 1)]), 2, 16, (.cons (.int .u8 (0 : Int)) (.cons (.int .u64 (0 : Int)) .nl)), some (.pair (.int .u8) (.pair (.int .u64) .nl)), false⟩),
  (73, ⟨(.st [(3, 0), (3, 1), (3, 2)]), 3, 24, (.cons (.int .i64 (0 : Int)) (.cons (.int .i64 (0 : Int)) (.cons (.int .i64 (0 : Int)) .nl))), some (.pair (.int .i64) (.pair (.int .i64) (.pair (.int .i64) .nl))), false⟩),
  (78, ⟨(.sl 27), 1, 24, .nils, some (.sl (.int .u64)), false⟩),
  (87, ⟨(.ptr 29), 1, 8, .nilp, none, false⟩),
  (117, ⟨(.arr 128 4), 128, 128, (.arr .bool 128 (List.replicate 128 false)), some (.arr 128 .bool), false⟩),
  (120, ⟨(.st [(3, 0), (3, 1), (3, 2), (3, 3), (3, 4)]), 5, 40, (.cons (.int .i64 (0 : Int)) (.cons (.int .i64 (0 : Int)) (.cons (.int .i64 (0 : Int)) (.cons (.int .i64 (0 : Int)) (.cons (.int .i64 (0 : Int)) .nl))))), some (.pair (.int .i64) (.pair (.int .i64) (.pair (.int .i64) (.pair (.int .i64) (.pair (.int .i64) .nl))))), false⟩)]
theorem tysOK : tisB Try.prog tyL = true := by kernel_rfl
theorem elemOK : elemB (mkD tyL) tyL = true := by kernel_rfl
theorem mixed : Try.prog.follows .mixedOrders = true := by kernel_rfl
def mtL : List (Nat × String × Nat) := []
theorem mtOK : MOk Try.prog mtL := trivial
def g84 : Sig := gCmp
theorem meets84 : Meets Try.prog 84 g84 := meets_cmp (fn := Try.f84) Try.func84 (by kernel_rfl) (by kernel_rfl) (by kernel_rfl) (by kernel_rfl)
def c28 (N : Nat) : Cx := mkC tyL [] [] mtL N
def g28 : Sig := ⟨(.cons (.pure (.int .i64)) .nl), (.cons (.pure (.int .i64)) .nl), Int, fun x => m_ticketlineref14_Words x.1, fun _ y => (y, ()), fun _ y => ((), ())⟩
def an28 : Nat → Ann := mkA []
theorem ev28 : ∀ x : g28.ps.den, evalFn (c28 FUEL) an28 Try.f28 (codeOf Try.f28) g28 x (fun p => p.1.1) = g28.m x := by
  intro x
  obtain ⟨x0, xu⟩ := x
  show _ = _
  kernel_rfl
theorem meets28 : Meets Try.prog 28 g28 :=
  meets_of (C := c28 FUEL) (ann := an28) (mkC_ok (gs := []) (is := []) (mt := mtL) tysOK elemOK trivial trivial mtOK FUEL) mixed Try.func28 (by kernel_rfl) (by kernel_rfl) (by kernel_rfl) (of_decide_eq_true (by kernel_rfl)) (fun p => p.1.1) (fun _ _ => ⟨rfl, rfl⟩) ev28
def c42 (N : Nat) : Cx := mkC tyL [(28, g28)] [] mtL N
def g42 : Sig := ⟨(.cons (.pure .str) .nl), (.cons (.own (.int .u64)) .nl), (List Int), fun x => m_ticketlineref14_Pack x.1, fun _ y => (y, ()), fun _ y => ((), ())⟩
def an42 : Nat → Ann := mkA [(3, ⟨[0, 3, 4], [], [9], false⟩)]
noncomputable def k42 (N : Nat) : Ex → St → Option (List Int) := finK (c42 N) Try.f42 g42 (.cons .top .nl) (fun p => p.1.1)
def a42 : Nat → Ann := annP [] an42
def h42_0 (u0_0 : ByteArray) (u0_1 : Int) (u0_2 : (List Int)) : St := ⟨38, [(0, (.str u0_0)), (3, (.full 9)), (4, (.int .i64 u0_1))], [(9, (.bk (.int .u64) u0_2))]⟩
theorem t42_0 : ∀ (N : Nat) (n : Nat) (u0_0 : ByteArray) (u0_1 : Int) (u0_2 : (List Int)), loopAt (c42 N) a42 [1, 1, 0, 1, 0] [] (codeOf Try.f42) (k42 N) n (h42_0 u0_0 u0_1 u0_2) = m_ticketlineref14_Pack_l0 N n u0_0 u0_1 u0_2 := by
  intro N n
  induction n with
  | zero => intro u0_0 u0_1 u0_2; kernel_rfl
  | succ n ih =>
    intro u0_0 u0_1 u0_2
    have e : loopAt (c42 N) a42 [1, 1, 0, 1, 0] [] (codeOf Try.f42) (k42 N) (n + 1) (h42_0 u0_0 u0_1 u0_2) = m_ticketlineref14_Pack_l0_b (fun w0 w1 w2 => loopAt (c42 N) a42 [1, 1, 0, 1, 0] [] (codeOf Try.f42) (k42 N) n (h42_0 w0 w1 w2)) u0_0 u0_1 u0_2 := by kernel_rfl
    refine e.trans ?_
    have es : (fun w0 w1 w2 => loopAt (c42 N) a42 [1, 1, 0, 1, 0] [] (codeOf Try.f42) (k42 N) n (h42_0 w0 w1 w2)) = m_ticketlineref14_Pack_l0 N n := by
      funext w0 w1 w2; exact ih w0 w1 w2
    rw [es]
    rw [m_ticketlineref14_Pack_l0]
theorem ew42 : ∀ (N : Nat) (x : g42.ps.den), evalFn (c42 N) an42 Try.f42 (codeOf Try.f42) g42 x (fun p => p.1.1) = m_ticketlineref14_Pack_a (m_ticketlineref14_Pack_l0 N N) x.1 := by
  intro N
  intro x
  obtain ⟨x0, xu⟩ := x
  have e : evalFn (c42 N) an42 Try.f42 (codeOf Try.f42) g42 (x0, xu) (fun p => p.1.1) = m_ticketlineref14_Pack_a (fun w0 w1 w2 => loopAt (c42 N) a42 [1, 1, 0, 1, 0] [] (codeOf Try.f42) (k42 N) N (h42_0 w0 w1 w2)) x0 := by kernel_rfl
  refine e.trans ?_
  have e0 : (fun w0 w1 w2 => loopAt (c42 N) a42 [1, 1, 0, 1, 0] [] (codeOf Try.f42) (k42 N) N (h42_0 w0 w1 w2)) = m_ticketlineref14_Pack_l0 N N := by
    funext w0 w1 w2; exact t42_0 N N w0 w1 w2
  rw [e0]
theorem ev42 : ∀ x : g42.ps.den, evalFn (c42 FUEL) an42 Try.f42 (codeOf Try.f42) g42 x (fun p => p.1.1) = g42.m x := fun x => ew42 FUEL x
theorem meets42 : Meets Try.prog 42 g42 :=
  meets_of (C := c42 FUEL) (ann := an42) (mkC_ok (gs := [(28, g28)]) (is := []) (mt := mtL) tysOK elemOK ⟨meets28, trivial⟩ trivial mtOK FUEL) mixed Try.func42 (by kernel_rfl) (by kernel_rfl) (by kernel_rfl) (of_decide_eq_true (by kernel_rfl)) (fun p => p.1.1) (fun _ _ => ⟨rfl, rfl⟩) ev42
def c49 (N : Nat) : Cx := mkC tyL [] [] mtL N
def g49 : Sig := ⟨(.cons (.ptr (.pure (.arr 128 (.int .u64)))) (.cons (.pure (.int .i64)) (.cons (.pure (.sl (.int .u64))) .nl))), .nl, (List Int), fun x => m_ticketlineref14_put x.1 x.2.1 x.2.2.1, fun _ y => (), fun _ y => (y, ((), ((), ())))⟩
def an49 : Nat → Ann := mkA [(1, ⟨[0, 1, 2, 6], [], [], false⟩)]
noncomputable def k49 (N : Nat) : Ex → St → Option (List Int) := finK (c49 N) Try.f49 g49 (.cons (.ref 100000 []) (.cons .top (.cons .top .nl))) (fun p => p.2.1)
def a49 : Nat → Ann := annP [100000] an49
def h49_0 (u0_0 : Int) (u0_1 : (List Int)) (u0_2 : Int) (u0_3 : (List Int)) : St := ⟨23, [(0, (.ref 100000 [])), (1, (.int .i64 u0_0)), (2, (.lst (.int .u64) u0_1)), (6, (.int .i64 u0_2))], [(100000, (.arr (.int .u64) 128 u0_3))]⟩
theorem t49_0 : ∀ (N : Nat) (n : Nat) (u0_0 : Int) (u0_1 : (List Int)) (u0_2 : Int) (u0_3 : (List Int)), loopAt (c49 N) a49 [1, 0] [] (codeOf Try.f49) (k49 N) n (h49_0 u0_0 u0_1 u0_2 u0_3) = m_ticketlineref14_put_l0 N n u0_0 u0_1 u0_2 u0_3 := by
  intro N n
  induction n with
  | zero => intro u0_0 u0_1 u0_2 u0_3; kernel_rfl
  | succ n ih =>
    intro u0_0 u0_1 u0_2 u0_3
    have e : loopAt (c49 N) a49 [1, 0] [] (codeOf Try.f49) (k49 N) (n + 1) (h49_0 u0_0 u0_1 u0_2 u0_3) = m_ticketlineref14_put_l0_b (fun w0 w1 w2 w3 => loopAt (c49 N) a49 [1, 0] [] (codeOf Try.f49) (k49 N) n (h49_0 w0 w1 w2 w3)) u0_0 u0_1 u0_2 u0_3 := by kernel_rfl
    refine e.trans ?_
    have es : (fun w0 w1 w2 w3 => loopAt (c49 N) a49 [1, 0] [] (codeOf Try.f49) (k49 N) n (h49_0 w0 w1 w2 w3)) = m_ticketlineref14_put_l0 N n := by
      funext w0 w1 w2 w3; exact ih w0 w1 w2 w3
    rw [es]
    rw [m_ticketlineref14_put_l0]
theorem ew49 : ∀ (N : Nat) (x : g49.ps.den), evalFn (c49 N) an49 Try.f49 (codeOf Try.f49) g49 x (fun p => p.2.1) = m_ticketlineref14_put_a (m_ticketlineref14_put_l0 N N) x.1 x.2.1 x.2.2.1 := by
  intro N
  intro x
  obtain ⟨x0, x1, x2, xu⟩ := x
  have e : evalFn (c49 N) an49 Try.f49 (codeOf Try.f49) g49 (x0, x1, x2, xu) (fun p => p.2.1) = m_ticketlineref14_put_a (fun w0 w1 w2 w3 => loopAt (c49 N) a49 [1, 0] [] (codeOf Try.f49) (k49 N) N (h49_0 w0 w1 w2 w3)) x0 x1 x2 := by kernel_rfl
  refine e.trans ?_
  have e0 : (fun w0 w1 w2 w3 => loopAt (c49 N) a49 [1, 0] [] (codeOf Try.f49) (k49 N) N (h49_0 w0 w1 w2 w3)) = m_ticketlineref14_put_l0 N N := by
    funext w0 w1 w2 w3; exact t49_0 N N w0 w1 w2 w3
  rw [e0]
theorem ev49 : ∀ x : g49.ps.den, evalFn (c49 FUEL) an49 Try.f49 (codeOf Try.f49) g49 x (fun p => p.2.1) = g49.m x := fun x => ew49 FUEL x
theorem meets49 : Meets Try.prog 49 g49 :=
  meets_of (C := c49 FUEL) (ann := an49) (mkC_ok (gs := []) (is := []) (mt := mtL) tysOK elemOK trivial trivial mtOK FUEL) mixed Try.func49 (by kernel_rfl) (by kernel_rfl) (by kernel_rfl) (of_decide_eq_true (by kernel_rfl)) (fun p => p.2.1) (fun _ _ => ⟨rfl, rfl⟩) ev49
def c27 (N : Nat) : Cx := mkC tyL [(42, g42), (49, g49)] [] mtL N
def g27 : Sig := ⟨(.cons (.pure (.int .i64)) (.cons (.pure .str) (.cons (.pure .str) .nl))), (.cons (.pure (.arr 128 (.int .u64))) .nl), (List Int), fun x => m_ticketlineref14_Empty x.1 x.2.1 x.2.2.1, fun _ y => (y, ()), fun _ y => ((), ((), ((), ())))⟩
def an27 : Nat → Ann := mkA []
theorem ev27 : ∀ x : g27.ps.den, evalFn (c27 FUEL) an27 Try.f27 (codeOf Try.f27) g27 x (fun p => p.1.1) = g27.m x := by
  intro x
  obtain ⟨x0, x1, x2, xu⟩ := x
  show _ = _
  kernel_rfl
theorem meets27 : Meets Try.prog 27 g27 :=
  meets_of (C := c27 FUEL) (ann := an27) (mkC_ok (gs := [(42, g42), (49, g49)]) (is := []) (mt := mtL) tysOK elemOK ⟨meets42, meets49, trivial⟩ trivial mtOK FUEL) mixed Try.func27 (by kernel_rfl) (by kernel_rfl) (by kernel_rfl) (of_decide_eq_true (by kernel_rfl)) (fun p => p.1.1) (fun _ _ => ⟨rfl, rfl⟩) ev27
def c35 (N : Nat) : Cx := mkC tyL [(28, g28)] [] mtL N
def g35 : Sig := ⟨(.cons (.pure (.pair .str (.pair .str .nl))) .nl), (.cons (.pure (.int .i64)) .nl), Int, fun x => m_ticketlineref14_Cost x.1, fun _ y => (y, ()), fun _ y => ((), ())⟩
def an35 : Nat → Ann := mkA []
theorem ev35 : ∀ x : g35.ps.den, evalFn (c35 FUEL) an35 Try.f35 (codeOf Try.f35) g35 x (fun p => p.1.1) = g35.m x := by
  intro x
  obtain ⟨x0, xu⟩ := x
  show _ = _
  kernel_rfl
theorem meets35 : Meets Try.prog 35 g35 :=
  meets_of (C := c35 FUEL) (ann := an35) (mkC_ok (gs := [(28, g28)]) (is := []) (mt := mtL) tysOK elemOK ⟨meets28, trivial⟩ trivial mtOK FUEL) mixed Try.func35 (by kernel_rfl) (by kernel_rfl) (by kernel_rfl) (of_decide_eq_true (by kernel_rfl)) (fun p => p.1.1) (fun _ _ => ⟨rfl, rfl⟩) ev35
def c36 (N : Nat) : Cx := mkC tyL [(42, g42), (49, g49)] [] mtL N
def g36 : Sig := ⟨(.cons (.pure (.arr 128 (.int .u64))) (.cons (.pure (.pair .str (.pair .str .nl))) .nl)), (.cons (.pure (.arr 128 (.int .u64))) .nl), (List Int), fun x => m_ticketlineref14_Put x.1 x.2.1, fun _ y => (y, ()), fun _ y => ((), ((), ()))⟩
def an36 : Nat → Ann := mkA []
theorem ev36 : ∀ x : g36.ps.den, evalFn (c36 FUEL) an36 Try.f36 (codeOf Try.f36) g36 x (fun p => p.1.1) = g36.m x := by
  intro x
  obtain ⟨x0, x1, xu⟩ := x
  show _ = _
  kernel_rfl
theorem meets36 : Meets Try.prog 36 g36 :=
  meets_of (C := c36 FUEL) (ann := an36) (mkC_ok (gs := [(42, g42), (49, g49)]) (is := []) (mt := mtL) tysOK elemOK ⟨meets42, meets49, trivial⟩ trivial mtOK FUEL) mixed Try.func36 (by kernel_rfl) (by kernel_rfl) (by kernel_rfl) (of_decide_eq_true (by kernel_rfl)) (fun p => p.1.1) (fun _ _ => ⟨rfl, rfl⟩) ev36
def c9 (N : Nat) : Cx := mkC tyL [(27, g27), (35, g35), (36, g36)] [] mtL N
def g9 : Sig := ⟨(.cons (.pure (.pair (.int .i64) (.pair (.int .i64) (.pair .str (.pair .str (.pair (.sl (.pair .str (.pair .str .nl))) (.pair (.sl (.int .u8)) (.pair (.sl (.pair (.int .u8) (.pair (.int .u64) .nl))) .nl)))))))) .nl), (.cons (.pure (.arr 128 (.int .u64))) (.cons (.pure .bool) .nl)), ((List Int) × Bool), fun x => m_ticketlineref14_Plan_Page x.1, fun _ y => (y.1, (y.2, ())), fun _ y => ((), ())⟩
def an9 : Nat → Ann := mkA [(6, ⟨[1, 2, 4, 5], [], [1, 2, 4], false⟩), (10, ⟨[1, 2, 4, 6], [], [1, 2, 4], false⟩), (18, ⟨[1, 2, 4, 6, 7, 8], [], [1, 2, 4], false⟩), (24, ⟨[1, 2, 4, 9], [], [1, 2, 4], false⟩)]
noncomputable def k9 (N : Nat) : Ex → St → Option ((List Int) × Bool) := finK (c9 N) Try.f9 g9 (.cons .top .nl) (fun p => (p.1.1, p.1.2.1))
def a9 : Nat → Ann := annP [] an9
def h9_2 (u2_0 : Int) (u2_1 : Int) (u2_2 : Int) (u2_3 : Int) (u2_4 : Int) (u2_5 : ByteArray) (u2_6 : ByteArray) (u2_7 : (List (ByteArray × (ByteArray × Unit)))) (u2_8 : (List Int)) (u2_9 : (List (Int × (Int × Unit)))) (u2_10 : (List Int)) (u2_11 : (List Int)) : St := ⟨174, [(1, (.ref 1 [])), (2, (.ref 2 [])), (4, (.ref 4 [])), (6, (.int .i64 u2_0)), (7, (.int .i64 u2_1)), (8, (.int .i64 u2_2))], [(1, (.cons (.int .i64 u2_3) (.cons (.int .i64 u2_4) (.cons (.str u2_5) (.cons (.str u2_6) (.cons (.lst (.pair .str (.pair .str .nl)) u2_7) (.cons (.lst (.int .u8) u2_8) (.cons (.lst (.pair (.int .u8) (.pair (.int .u64) .nl)) u2_9) .nl)))))))), (2, (.arr (.int .u64) 128 u2_10)), (4, (.arr (.int .u64) 128 u2_11))]⟩
def h9_3 (u3_0 : Int) (u3_1 : Int) (u3_2 : Int) (u3_3 : ByteArray) (u3_4 : ByteArray) (u3_5 : (List (ByteArray × (ByteArray × Unit)))) (u3_6 : (List Int)) (u3_7 : (List (Int × (Int × Unit)))) (u3_8 : (List Int)) (u3_9 : (List Int)) : St := ⟨174, [(1, (.ref 1 [])), (2, (.ref 2 [])), (4, (.ref 4 [])), (9, (.int .i64 u3_0))], [(1, (.cons (.int .i64 u3_1) (.cons (.int .i64 u3_2) (.cons (.str u3_3) (.cons (.str u3_4) (.cons (.lst (.pair .str (.pair .str .nl)) u3_5) (.cons (.lst (.int .u8) u3_6) (.cons (.lst (.pair (.int .u8) (.pair (.int .u64) .nl)) u3_7) .nl)))))))), (2, (.arr (.int .u64) 128 u3_8)), (4, (.arr (.int .u64) 128 u3_9))]⟩
def h9_1 (u1_0 : Int) (u1_1 : Int) (u1_2 : Int) (u1_3 : ByteArray) (u1_4 : ByteArray) (u1_5 : (List (ByteArray × (ByteArray × Unit)))) (u1_6 : (List Int)) (u1_7 : (List (Int × (Int × Unit)))) (u1_8 : (List Int)) (u1_9 : (List Int)) : St := ⟨174, [(1, (.ref 1 [])), (2, (.ref 2 [])), (4, (.ref 4 [])), (6, (.int .i64 u1_0))], [(1, (.cons (.int .i64 u1_1) (.cons (.int .i64 u1_2) (.cons (.str u1_3) (.cons (.str u1_4) (.cons (.lst (.pair .str (.pair .str .nl)) u1_5) (.cons (.lst (.int .u8) u1_6) (.cons (.lst (.pair (.int .u8) (.pair (.int .u64) .nl)) u1_7) .nl)))))))), (2, (.arr (.int .u64) 128 u1_8)), (4, (.arr (.int .u64) 128 u1_9))]⟩
def h9_0 (u0_0 : Int) (u0_1 : Int) (u0_2 : Int) (u0_3 : ByteArray) (u0_4 : ByteArray) (u0_5 : (List (ByteArray × (ByteArray × Unit)))) (u0_6 : (List Int)) (u0_7 : (List (Int × (Int × Unit)))) (u0_8 : (List Int)) (u0_9 : (List Int)) : St := ⟨174, [(1, (.ref 1 [])), (2, (.ref 2 [])), (4, (.ref 4 [])), (5, (.int .i64 u0_0))], [(1, (.cons (.int .i64 u0_1) (.cons (.int .i64 u0_2) (.cons (.str u0_3) (.cons (.str u0_4) (.cons (.lst (.pair .str (.pair .str .nl)) u0_5) (.cons (.lst (.int .u8) u0_6) (.cons (.lst (.pair (.int .u8) (.pair (.int .u64) .nl)) u0_7) .nl)))))))), (2, (.arr (.int .u64) 128 u0_8)), (4, (.arr (.int .u64) 128 u0_9))]⟩
theorem t9_2 : ∀ (N : Nat) (m0 : Nat) (n : Nat) (u2_0 : Int) (u2_1 : Int) (u2_2 : Int) (u2_3 : Int) (u2_4 : Int) (u2_5 : ByteArray) (u2_6 : ByteArray) (u2_7 : (List (ByteArray × (ByteArray × Unit)))) (u2_8 : (List Int)) (u2_9 : (List (Int × (Int × Unit)))) (u2_10 : (List Int)) (u2_11 : (List Int)), loopAt (c9 N) a9 [1, 1, 1, 1, 1, 0, 1, 0, 0, 1, 0, 0, 1, 1, 1, 0, 1, 0] [m0] (codeOf Try.f9) (k9 N) n (h9_2 u2_0 u2_1 u2_2 u2_3 u2_4 u2_5 u2_6 u2_7 u2_8 u2_9 u2_10 u2_11) = m_ticketlineref14_Plan_Page_l2 N (fun w0 w1 w2 w3 w4 w5 w6 w7 w8 w9 => loopAt (c9 N) a9 [1, 1, 1, 1, 1, 0, 1, 0] [] (codeOf Try.f9) (k9 N) m0 (h9_1 w0 w1 w2 w3 w4 w5 w6 w7 w8 w9)) n u2_0 u2_1 u2_2 u2_3 u2_4 u2_5 u2_6 u2_7 u2_8 u2_9 u2_10 u2_11 := by
  intro N m0 n
  induction n with
  | zero => intro u2_0 u2_1 u2_2 u2_3 u2_4 u2_5 u2_6 u2_7 u2_8 u2_9 u2_10 u2_11; kernel_rfl
  | succ n ih =>
    intro u2_0 u2_1 u2_2 u2_3 u2_4 u2_5 u2_6 u2_7 u2_8 u2_9 u2_10 u2_11
    have e : loopAt (c9 N) a9 [1, 1, 1, 1, 1, 0, 1, 0, 0, 1, 0, 0, 1, 1, 1, 0, 1, 0] [m0] (codeOf Try.f9) (k9 N) (n + 1) (h9_2 u2_0 u2_1 u2_2 u2_3 u2_4 u2_5 u2_6 u2_7 u2_8 u2_9 u2_10 u2_11) = m_ticketlineref14_Plan_Page_l2_b (fun w0 w1 w2 w3 w4 w5 w6 w7 w8 w9 => loopAt (c9 N) a9 [1, 1, 1, 1, 1, 0, 1, 0] [] (codeOf Try.f9) (k9 N) m0 (h9_1 w0 w1 w2 w3 w4 w5 w6 w7 w8 w9)) (fun w0 w1 w2 w3 w4 w5 w6 w7 w8 w9 w10 w11 => loopAt (c9 N) a9 [1, 1, 1, 1, 1, 0, 1, 0, 0, 1, 0, 0, 1, 1, 1, 0, 1, 0] [m0] (codeOf Try.f9) (k9 N) n (h9_2 w0 w1 w2 w3 w4 w5 w6 w7 w8 w9 w10 w11)) u2_0 u2_1 u2_2 u2_3 u2_4 u2_5 u2_6 u2_7 u2_8 u2_9 u2_10 u2_11 := by kernel_rfl
    refine e.trans ?_
    have es : (fun w0 w1 w2 w3 w4 w5 w6 w7 w8 w9 w10 w11 => loopAt (c9 N) a9 [1, 1, 1, 1, 1, 0, 1, 0, 0, 1, 0, 0, 1, 1, 1, 0, 1, 0] [m0] (codeOf Try.f9) (k9 N) n (h9_2 w0 w1 w2 w3 w4 w5 w6 w7 w8 w9 w10 w11)) = m_ticketlineref14_Plan_Page_l2 N (fun w0 w1 w2 w3 w4 w5 w6 w7 w8 w9 => loopAt (c9 N) a9 [1, 1, 1, 1, 1, 0, 1, 0] [] (codeOf Try.f9) (k9 N) m0 (h9_1 w0 w1 w2 w3 w4 w5 w6 w7 w8 w9)) n := by
      funext w0 w1 w2 w3 w4 w5 w6 w7 w8 w9 w10 w11; exact ih w0 w1 w2 w3 w4 w5 w6 w7 w8 w9 w10 w11
    rw [es]
    rw [m_ticketlineref14_Plan_Page_l2]
theorem t9_3 : ∀ (N : Nat) (n : Nat) (u3_0 : Int) (u3_1 : Int) (u3_2 : Int) (u3_3 : ByteArray) (u3_4 : ByteArray) (u3_5 : (List (ByteArray × (ByteArray × Unit)))) (u3_6 : (List Int)) (u3_7 : (List (Int × (Int × Unit)))) (u3_8 : (List Int)) (u3_9 : (List Int)), loopAt (c9 N) a9 [1, 1, 1, 1, 1, 1, 0, 1, 0] [] (codeOf Try.f9) (k9 N) n (h9_3 u3_0 u3_1 u3_2 u3_3 u3_4 u3_5 u3_6 u3_7 u3_8 u3_9) = m_ticketlineref14_Plan_Page_l3 N n u3_0 u3_1 u3_2 u3_3 u3_4 u3_5 u3_6 u3_7 u3_8 u3_9 := by
  intro N n
  induction n with
  | zero => intro u3_0 u3_1 u3_2 u3_3 u3_4 u3_5 u3_6 u3_7 u3_8 u3_9; kernel_rfl
  | succ n ih =>
    intro u3_0 u3_1 u3_2 u3_3 u3_4 u3_5 u3_6 u3_7 u3_8 u3_9
    have e : loopAt (c9 N) a9 [1, 1, 1, 1, 1, 1, 0, 1, 0] [] (codeOf Try.f9) (k9 N) (n + 1) (h9_3 u3_0 u3_1 u3_2 u3_3 u3_4 u3_5 u3_6 u3_7 u3_8 u3_9) = m_ticketlineref14_Plan_Page_l3_b (fun w0 w1 w2 w3 w4 w5 w6 w7 w8 w9 => loopAt (c9 N) a9 [1, 1, 1, 1, 1, 1, 0, 1, 0] [] (codeOf Try.f9) (k9 N) n (h9_3 w0 w1 w2 w3 w4 w5 w6 w7 w8 w9)) u3_0 u3_1 u3_2 u3_3 u3_4 u3_5 u3_6 u3_7 u3_8 u3_9 := by kernel_rfl
    refine e.trans ?_
    have es : (fun w0 w1 w2 w3 w4 w5 w6 w7 w8 w9 => loopAt (c9 N) a9 [1, 1, 1, 1, 1, 1, 0, 1, 0] [] (codeOf Try.f9) (k9 N) n (h9_3 w0 w1 w2 w3 w4 w5 w6 w7 w8 w9)) = m_ticketlineref14_Plan_Page_l3 N n := by
      funext w0 w1 w2 w3 w4 w5 w6 w7 w8 w9; exact ih w0 w1 w2 w3 w4 w5 w6 w7 w8 w9
    rw [es]
    rw [m_ticketlineref14_Plan_Page_l3]
theorem t9_1 : ∀ (N : Nat) (n : Nat) (u1_0 : Int) (u1_1 : Int) (u1_2 : Int) (u1_3 : ByteArray) (u1_4 : ByteArray) (u1_5 : (List (ByteArray × (ByteArray × Unit)))) (u1_6 : (List Int)) (u1_7 : (List (Int × (Int × Unit)))) (u1_8 : (List Int)) (u1_9 : (List Int)), loopAt (c9 N) a9 [1, 1, 1, 1, 1, 0, 1, 0] [] (codeOf Try.f9) (k9 N) n (h9_1 u1_0 u1_1 u1_2 u1_3 u1_4 u1_5 u1_6 u1_7 u1_8 u1_9) = m_ticketlineref14_Plan_Page_l1 N n u1_0 u1_1 u1_2 u1_3 u1_4 u1_5 u1_6 u1_7 u1_8 u1_9 := by
  intro N n
  induction n with
  | zero => intro u1_0 u1_1 u1_2 u1_3 u1_4 u1_5 u1_6 u1_7 u1_8 u1_9; kernel_rfl
  | succ n ih =>
    intro u1_0 u1_1 u1_2 u1_3 u1_4 u1_5 u1_6 u1_7 u1_8 u1_9
    have e : loopAt (c9 N) a9 [1, 1, 1, 1, 1, 0, 1, 0] [] (codeOf Try.f9) (k9 N) (n + 1) (h9_1 u1_0 u1_1 u1_2 u1_3 u1_4 u1_5 u1_6 u1_7 u1_8 u1_9) = m_ticketlineref14_Plan_Page_l1_b (fun w0 w1 w2 w3 w4 w5 w6 w7 w8 w9 => loopAt (c9 N) a9 [1, 1, 1, 1, 1, 0, 1, 0] [] (codeOf Try.f9) (k9 N) n (h9_1 w0 w1 w2 w3 w4 w5 w6 w7 w8 w9)) (fun w0 w1 w2 w3 w4 w5 w6 w7 w8 w9 w10 w11 => loopAt (c9 N) a9 [1, 1, 1, 1, 1, 0, 1, 0, 0, 1, 0, 0, 1, 1, 1, 0, 1, 0] [n] (codeOf Try.f9) (k9 N) N (h9_2 w0 w1 w2 w3 w4 w5 w6 w7 w8 w9 w10 w11)) (fun w0 w1 w2 w3 w4 w5 w6 w7 w8 w9 => loopAt (c9 N) a9 [1, 1, 1, 1, 1, 1, 0, 1, 0] [] (codeOf Try.f9) (k9 N) N (h9_3 w0 w1 w2 w3 w4 w5 w6 w7 w8 w9)) u1_0 u1_1 u1_2 u1_3 u1_4 u1_5 u1_6 u1_7 u1_8 u1_9 := by kernel_rfl
    refine e.trans ?_
    have e2 : (fun w0 w1 w2 w3 w4 w5 w6 w7 w8 w9 w10 w11 => loopAt (c9 N) a9 [1, 1, 1, 1, 1, 0, 1, 0, 0, 1, 0, 0, 1, 1, 1, 0, 1, 0] [n] (codeOf Try.f9) (k9 N) N (h9_2 w0 w1 w2 w3 w4 w5 w6 w7 w8 w9 w10 w11)) = m_ticketlineref14_Plan_Page_l2 N (fun w0 w1 w2 w3 w4 w5 w6 w7 w8 w9 => loopAt (c9 N) a9 [1, 1, 1, 1, 1, 0, 1, 0] [] (codeOf Try.f9) (k9 N) n (h9_1 w0 w1 w2 w3 w4 w5 w6 w7 w8 w9)) N := by
      funext w0 w1 w2 w3 w4 w5 w6 w7 w8 w9 w10 w11; exact t9_2 N n N w0 w1 w2 w3 w4 w5 w6 w7 w8 w9 w10 w11
    rw [e2]
    have e3 : (fun w0 w1 w2 w3 w4 w5 w6 w7 w8 w9 => loopAt (c9 N) a9 [1, 1, 1, 1, 1, 1, 0, 1, 0] [] (codeOf Try.f9) (k9 N) N (h9_3 w0 w1 w2 w3 w4 w5 w6 w7 w8 w9)) = m_ticketlineref14_Plan_Page_l3 N N := by
      funext w0 w1 w2 w3 w4 w5 w6 w7 w8 w9; exact t9_3 N N w0 w1 w2 w3 w4 w5 w6 w7 w8 w9
    rw [e3]
    have es : (fun w0 w1 w2 w3 w4 w5 w6 w7 w8 w9 => loopAt (c9 N) a9 [1, 1, 1, 1, 1, 0, 1, 0] [] (codeOf Try.f9) (k9 N) n (h9_1 w0 w1 w2 w3 w4 w5 w6 w7 w8 w9)) = m_ticketlineref14_Plan_Page_l1 N n := by
      funext w0 w1 w2 w3 w4 w5 w6 w7 w8 w9; exact ih w0 w1 w2 w3 w4 w5 w6 w7 w8 w9
    rw [es]
    rw [m_ticketlineref14_Plan_Page_l1]
theorem t9_0 : ∀ (N : Nat) (n : Nat) (u0_0 : Int) (u0_1 : Int) (u0_2 : Int) (u0_3 : ByteArray) (u0_4 : ByteArray) (u0_5 : (List (ByteArray × (ByteArray × Unit)))) (u0_6 : (List Int)) (u0_7 : (List (Int × (Int × Unit)))) (u0_8 : (List Int)) (u0_9 : (List Int)), loopAt (c9 N) a9 [1, 1, 1, 1, 0, 1, 0] [] (codeOf Try.f9) (k9 N) n (h9_0 u0_0 u0_1 u0_2 u0_3 u0_4 u0_5 u0_6 u0_7 u0_8 u0_9) = m_ticketlineref14_Plan_Page_l0 N n u0_0 u0_1 u0_2 u0_3 u0_4 u0_5 u0_6 u0_7 u0_8 u0_9 := by
  intro N n
  induction n with
  | zero => intro u0_0 u0_1 u0_2 u0_3 u0_4 u0_5 u0_6 u0_7 u0_8 u0_9; kernel_rfl
  | succ n ih =>
    intro u0_0 u0_1 u0_2 u0_3 u0_4 u0_5 u0_6 u0_7 u0_8 u0_9
    have e : loopAt (c9 N) a9 [1, 1, 1, 1, 0, 1, 0] [] (codeOf Try.f9) (k9 N) (n + 1) (h9_0 u0_0 u0_1 u0_2 u0_3 u0_4 u0_5 u0_6 u0_7 u0_8 u0_9) = m_ticketlineref14_Plan_Page_l0_b (fun w0 w1 w2 w3 w4 w5 w6 w7 w8 w9 => loopAt (c9 N) a9 [1, 1, 1, 1, 0, 1, 0] [] (codeOf Try.f9) (k9 N) n (h9_0 w0 w1 w2 w3 w4 w5 w6 w7 w8 w9)) (fun w0 w1 w2 w3 w4 w5 w6 w7 w8 w9 => loopAt (c9 N) a9 [1, 1, 1, 1, 1, 0, 1, 0] [] (codeOf Try.f9) (k9 N) N (h9_1 w0 w1 w2 w3 w4 w5 w6 w7 w8 w9)) u0_0 u0_1 u0_2 u0_3 u0_4 u0_5 u0_6 u0_7 u0_8 u0_9 := by kernel_rfl
    refine e.trans ?_
    have e1 : (fun w0 w1 w2 w3 w4 w5 w6 w7 w8 w9 => loopAt (c9 N) a9 [1, 1, 1, 1, 1, 0, 1, 0] [] (codeOf Try.f9) (k9 N) N (h9_1 w0 w1 w2 w3 w4 w5 w6 w7 w8 w9)) = m_ticketlineref14_Plan_Page_l1 N N := by
      funext w0 w1 w2 w3 w4 w5 w6 w7 w8 w9; exact t9_1 N N w0 w1 w2 w3 w4 w5 w6 w7 w8 w9
    rw [e1]
    have es : (fun w0 w1 w2 w3 w4 w5 w6 w7 w8 w9 => loopAt (c9 N) a9 [1, 1, 1, 1, 0, 1, 0] [] (codeOf Try.f9) (k9 N) n (h9_0 w0 w1 w2 w3 w4 w5 w6 w7 w8 w9)) = m_ticketlineref14_Plan_Page_l0 N n := by
      funext w0 w1 w2 w3 w4 w5 w6 w7 w8 w9; exact ih w0 w1 w2 w3 w4 w5 w6 w7 w8 w9
    rw [es]
    rw [m_ticketlineref14_Plan_Page_l0]
theorem ew9 : ∀ (N : Nat) (x : g9.ps.den), evalFn (c9 N) an9 Try.f9 (codeOf Try.f9) g9 x (fun p => (p.1.1, p.1.2.1)) = m_ticketlineref14_Plan_Page_a (m_ticketlineref14_Plan_Page_l0 N N) x.1 := by
  intro N
  intro x
  obtain ⟨x0, xu⟩ := x
  have e : evalFn (c9 N) an9 Try.f9 (codeOf Try.f9) g9 (x0, xu) (fun p => (p.1.1, p.1.2.1)) = m_ticketlineref14_Plan_Page_a (fun w0 w1 w2 w3 w4 w5 w6 w7 w8 w9 => loopAt (c9 N) a9 [1, 1, 1, 1, 0, 1, 0] [] (codeOf Try.f9) (k9 N) N (h9_0 w0 w1 w2 w3 w4 w5 w6 w7 w8 w9)) x0 := by kernel_rfl
  refine e.trans ?_
  have e0 : (fun w0 w1 w2 w3 w4 w5 w6 w7 w8 w9 => loopAt (c9 N) a9 [1, 1, 1, 1, 0, 1, 0] [] (codeOf Try.f9) (k9 N) N (h9_0 w0 w1 w2 w3 w4 w5 w6 w7 w8 w9)) = m_ticketlineref14_Plan_Page_l0 N N := by
    funext w0 w1 w2 w3 w4 w5 w6 w7 w8 w9; exact t9_0 N N w0 w1 w2 w3 w4 w5 w6 w7 w8 w9
  rw [e0]
theorem ev9 : ∀ x : g9.ps.den, evalFn (c9 FUEL) an9 Try.f9 (codeOf Try.f9) g9 x (fun p => (p.1.1, p.1.2.1)) = g9.m x := fun x => ew9 FUEL x
theorem meets9 : Meets Try.prog 9 g9 :=
  meets_of (C := c9 FUEL) (ann := an9) (mkC_ok (gs := [(27, g27), (35, g35), (36, g36)]) (is := []) (mt := mtL) tysOK elemOK ⟨meets27, meets35, meets36, trivial⟩ trivial mtOK FUEL) mixed Try.func9 (by kernel_rfl) (by kernel_rfl) (by kernel_rfl) (of_decide_eq_true (by kernel_rfl)) (fun p => (p.1.1, p.1.2.1)) (fun _ _ => ⟨rfl, rfl⟩) ev9
def c38 (N : Nat) : Cx := mkC tyL [] [] mtL N
def g38 : Sig := ⟨(.cons (.pure (.int .u64)) .nl), (.cons (.pure (.pair (.int .i64) (.pair (.int .i64) (.pair (.int .i64) .nl)))) (.cons (.pure .bool) .nl)), ((Int × (Int × (Int × Unit))) × Bool), fun x => m_ticketlineref14_SlotOf x.1, fun _ y => (y.1, (y.2, ())), fun _ y => ((), ())⟩
def an38 : Nat → Ann := mkA []
theorem ev38 : ∀ x : g38.ps.den, evalFn (c38 FUEL) an38 Try.f38 (codeOf Try.f38) g38 x (fun p => (p.1.1, p.1.2.1)) = g38.m x := by
  intro x
  obtain ⟨x0, xu⟩ := x
  show _ = _
  kernel_rfl
theorem meets38 : Meets Try.prog 38 g38 :=
  meets_of (C := c38 FUEL) (ann := an38) (mkC_ok (gs := []) (is := []) (mt := mtL) tysOK elemOK trivial trivial mtOK FUEL) mixed Try.func38 (by kernel_rfl) (by kernel_rfl) (by kernel_rfl) (of_decide_eq_true (by kernel_rfl)) (fun p => (p.1.1, p.1.2.1)) (fun _ _ => ⟨rfl, rfl⟩) ev38
def c39 (N : Nat) : Cx := mkC tyL [] [] mtL N
def g39 : Sig := ⟨(.cons (.pure (.sl (.int .u64))) (.cons (.pure (.int .i64)) .nl)), (.cons (.pure .str) (.cons (.pure .bool) .nl)), (ByteArray × Bool), fun x => m_ticketlineref14_Text x.1 x.2.1, fun _ y => (y.1, (y.2, ())), fun _ y => ((), ((), ()))⟩
def an39 : Nat → Ann := mkA [(3, ⟨[0, 1, 6, 7], [], [14], false⟩), (7, ⟨[0, 1, 6, 7, 8, 9], [], [14], false⟩), (14, ⟨[1, 6, 10], [], [14], false⟩)]
noncomputable def k39 (N : Nat) : Ex → St → Option (ByteArray × Bool) := finK (c39 N) Try.f39 g39 (.cons .top (.cons .top .nl)) (fun p => (p.1.1, p.1.2.1))
def a39 : Nat → Ann := annP [] an39
def h39_1 (u1_0 : (List Int)) (u1_1 : Int) (u1_2 : Int) (u1_3 : Int) (u1_4 : Int) (u1_5 : (List Int)) : St := ⟨60, [(0, (.lst (.int .u64) u1_0)), (1, (.int .i64 u1_1)), (6, (.full 14)), (7, (.int .i64 u1_2)), (8, (.int .u64 u1_3)), (9, (.int .i64 u1_4))], [(14, (.bk (.int .u8) u1_5))]⟩
def h39_2 (u2_0 : Int) (u2_1 : Int) (u2_2 : (List Int)) : St := ⟨60, [(1, (.int .i64 u2_0)), (6, (.full 14)), (10, (.int .i64 u2_1))], [(14, (.bk (.int .u8) u2_2))]⟩
def h39_0 (u0_0 : (List Int)) (u0_1 : Int) (u0_2 : Int) (u0_3 : (List Int)) : St := ⟨60, [(0, (.lst (.int .u64) u0_0)), (1, (.int .i64 u0_1)), (6, (.full 14)), (7, (.int .i64 u0_2))], [(14, (.bk (.int .u8) u0_3))]⟩
theorem t39_1 : ∀ (N : Nat) (m0 : Nat) (n : Nat) (u1_0 : (List Int)) (u1_1 : Int) (u1_2 : Int) (u1_3 : Int) (u1_4 : Int) (u1_5 : (List Int)), loopAt (c39 N) a39 [1, 1, 0, 1, 0, 0, 1, 0, 0, 1, 1, 0] [m0] (codeOf Try.f39) (k39 N) n (h39_1 u1_0 u1_1 u1_2 u1_3 u1_4 u1_5) = m_ticketlineref14_Text_l1 N (fun w0 w1 w2 w3 => loopAt (c39 N) a39 [1, 1, 0, 1, 0] [] (codeOf Try.f39) (k39 N) m0 (h39_0 w0 w1 w2 w3)) n u1_0 u1_1 u1_2 u1_3 u1_4 u1_5 := by
  intro N m0 n
  induction n with
  | zero => intro u1_0 u1_1 u1_2 u1_3 u1_4 u1_5; kernel_rfl
  | succ n ih =>
    intro u1_0 u1_1 u1_2 u1_3 u1_4 u1_5
    have e : loopAt (c39 N) a39 [1, 1, 0, 1, 0, 0, 1, 0, 0, 1, 1, 0] [m0] (codeOf Try.f39) (k39 N) (n + 1) (h39_1 u1_0 u1_1 u1_2 u1_3 u1_4 u1_5) = m_ticketlineref14_Text_l1_b (fun w0 w1 w2 w3 => loopAt (c39 N) a39 [1, 1, 0, 1, 0] [] (codeOf Try.f39) (k39 N) m0 (h39_0 w0 w1 w2 w3)) (fun w0 w1 w2 w3 w4 w5 => loopAt (c39 N) a39 [1, 1, 0, 1, 0, 0, 1, 0, 0, 1, 1, 0] [m0] (codeOf Try.f39) (k39 N) n (h39_1 w0 w1 w2 w3 w4 w5)) u1_0 u1_1 u1_2 u1_3 u1_4 u1_5 := by kernel_rfl
    refine e.trans ?_
    have es : (fun w0 w1 w2 w3 w4 w5 => loopAt (c39 N) a39 [1, 1, 0, 1, 0, 0, 1, 0, 0, 1, 1, 0] [m0] (codeOf Try.f39) (k39 N) n (h39_1 w0 w1 w2 w3 w4 w5)) = m_ticketlineref14_Text_l1 N (fun w0 w1 w2 w3 => loopAt (c39 N) a39 [1, 1, 0, 1, 0] [] (codeOf Try.f39) (k39 N) m0 (h39_0 w0 w1 w2 w3)) n := by
      funext w0 w1 w2 w3 w4 w5; exact ih w0 w1 w2 w3 w4 w5
    rw [es]
    rw [m_ticketlineref14_Text_l1]
theorem t39_2 : ∀ (N : Nat) (n : Nat) (u2_0 : Int) (u2_1 : Int) (u2_2 : (List Int)), loopAt (c39 N) a39 [1, 1, 1, 1, 0, 1, 0] [] (codeOf Try.f39) (k39 N) n (h39_2 u2_0 u2_1 u2_2) = m_ticketlineref14_Text_l2 N n u2_0 u2_1 u2_2 := by
  intro N n
  induction n with
  | zero => intro u2_0 u2_1 u2_2; kernel_rfl
  | succ n ih =>
    intro u2_0 u2_1 u2_2
    have e : loopAt (c39 N) a39 [1, 1, 1, 1, 0, 1, 0] [] (codeOf Try.f39) (k39 N) (n + 1) (h39_2 u2_0 u2_1 u2_2) = m_ticketlineref14_Text_l2_b (fun w0 w1 w2 => loopAt (c39 N) a39 [1, 1, 1, 1, 0, 1, 0] [] (codeOf Try.f39) (k39 N) n (h39_2 w0 w1 w2)) u2_0 u2_1 u2_2 := by kernel_rfl
    refine e.trans ?_
    have es : (fun w0 w1 w2 => loopAt (c39 N) a39 [1, 1, 1, 1, 0, 1, 0] [] (codeOf Try.f39) (k39 N) n (h39_2 w0 w1 w2)) = m_ticketlineref14_Text_l2 N n := by
      funext w0 w1 w2; exact ih w0 w1 w2
    rw [es]
    rw [m_ticketlineref14_Text_l2]
theorem t39_0 : ∀ (N : Nat) (n : Nat) (u0_0 : (List Int)) (u0_1 : Int) (u0_2 : Int) (u0_3 : (List Int)), loopAt (c39 N) a39 [1, 1, 0, 1, 0] [] (codeOf Try.f39) (k39 N) n (h39_0 u0_0 u0_1 u0_2 u0_3) = m_ticketlineref14_Text_l0 N n u0_0 u0_1 u0_2 u0_3 := by
  intro N n
  induction n with
  | zero => intro u0_0 u0_1 u0_2 u0_3; kernel_rfl
  | succ n ih =>
    intro u0_0 u0_1 u0_2 u0_3
    have e : loopAt (c39 N) a39 [1, 1, 0, 1, 0] [] (codeOf Try.f39) (k39 N) (n + 1) (h39_0 u0_0 u0_1 u0_2 u0_3) = m_ticketlineref14_Text_l0_b (fun w0 w1 w2 w3 => loopAt (c39 N) a39 [1, 1, 0, 1, 0] [] (codeOf Try.f39) (k39 N) n (h39_0 w0 w1 w2 w3)) (fun w0 w1 w2 w3 w4 w5 => loopAt (c39 N) a39 [1, 1, 0, 1, 0, 0, 1, 0, 0, 1, 1, 0] [n] (codeOf Try.f39) (k39 N) N (h39_1 w0 w1 w2 w3 w4 w5)) (fun w0 w1 w2 => loopAt (c39 N) a39 [1, 1, 1, 1, 0, 1, 0] [] (codeOf Try.f39) (k39 N) N (h39_2 w0 w1 w2)) u0_0 u0_1 u0_2 u0_3 := by kernel_rfl
    refine e.trans ?_
    have e1 : (fun w0 w1 w2 w3 w4 w5 => loopAt (c39 N) a39 [1, 1, 0, 1, 0, 0, 1, 0, 0, 1, 1, 0] [n] (codeOf Try.f39) (k39 N) N (h39_1 w0 w1 w2 w3 w4 w5)) = m_ticketlineref14_Text_l1 N (fun w0 w1 w2 w3 => loopAt (c39 N) a39 [1, 1, 0, 1, 0] [] (codeOf Try.f39) (k39 N) n (h39_0 w0 w1 w2 w3)) N := by
      funext w0 w1 w2 w3 w4 w5; exact t39_1 N n N w0 w1 w2 w3 w4 w5
    rw [e1]
    have e2 : (fun w0 w1 w2 => loopAt (c39 N) a39 [1, 1, 1, 1, 0, 1, 0] [] (codeOf Try.f39) (k39 N) N (h39_2 w0 w1 w2)) = m_ticketlineref14_Text_l2 N N := by
      funext w0 w1 w2; exact t39_2 N N w0 w1 w2
    rw [e2]
    have es : (fun w0 w1 w2 w3 => loopAt (c39 N) a39 [1, 1, 0, 1, 0] [] (codeOf Try.f39) (k39 N) n (h39_0 w0 w1 w2 w3)) = m_ticketlineref14_Text_l0 N n := by
      funext w0 w1 w2 w3; exact ih w0 w1 w2 w3
    rw [es]
    rw [m_ticketlineref14_Text_l0]
theorem ew39 : ∀ (N : Nat) (x : g39.ps.den), evalFn (c39 N) an39 Try.f39 (codeOf Try.f39) g39 x (fun p => (p.1.1, p.1.2.1)) = m_ticketlineref14_Text_a (m_ticketlineref14_Text_l0 N N) x.1 x.2.1 := by
  intro N
  intro x
  obtain ⟨x0, x1, xu⟩ := x
  have e : evalFn (c39 N) an39 Try.f39 (codeOf Try.f39) g39 (x0, x1, xu) (fun p => (p.1.1, p.1.2.1)) = m_ticketlineref14_Text_a (fun w0 w1 w2 w3 => loopAt (c39 N) a39 [1, 1, 0, 1, 0] [] (codeOf Try.f39) (k39 N) N (h39_0 w0 w1 w2 w3)) x0 x1 := by kernel_rfl
  refine e.trans ?_
  have e0 : (fun w0 w1 w2 w3 => loopAt (c39 N) a39 [1, 1, 0, 1, 0] [] (codeOf Try.f39) (k39 N) N (h39_0 w0 w1 w2 w3)) = m_ticketlineref14_Text_l0 N N := by
    funext w0 w1 w2 w3; exact t39_0 N N w0 w1 w2 w3
  rw [e0]
theorem ev39 : ∀ x : g39.ps.den, evalFn (c39 FUEL) an39 Try.f39 (codeOf Try.f39) g39 x (fun p => (p.1.1, p.1.2.1)) = g39.m x := fun x => ew39 FUEL x
theorem meets39 : Meets Try.prog 39 g39 :=
  meets_of (C := c39 FUEL) (ann := an39) (mkC_ok (gs := []) (is := []) (mt := mtL) tysOK elemOK trivial trivial mtOK FUEL) mixed Try.func39 (by kernel_rfl) (by kernel_rfl) (by kernel_rfl) (of_decide_eq_true (by kernel_rfl)) (fun p => (p.1.1, p.1.2.1)) (fun _ _ => ⟨rfl, rfl⟩) ev39
def c40 (N : Nat) : Cx := mkC tyL [(28, g28)] [] mtL N
def g40 : Sig := ⟨(.cons (.pure (.pair (.int .i64) (.pair (.int .i64) (.pair (.int .i64) .nl)))) .nl), (.cons (.pure (.int .i64)) .nl), Int, fun x => m_ticketlineref14_Slot_End x.1, fun _ y => (y, ()), fun _ y => ((), ())⟩
def an40 : Nat → Ann := mkA []
theorem ev40 : ∀ x : g40.ps.den, evalFn (c40 FUEL) an40 Try.f40 (codeOf Try.f40) g40 x (fun p => p.1.1) = g40.m x := by
  intro x
  obtain ⟨x0, xu⟩ := x
  show _ = _
  kernel_rfl
theorem meets40 : Meets Try.prog 40 g40 :=
  meets_of (C := c40 FUEL) (ann := an40) (mkC_ok (gs := [(28, g28)]) (is := []) (mt := mtL) tysOK elemOK ⟨meets28, trivial⟩ trivial mtOK FUEL) mixed Try.func40 (by kernel_rfl) (by kernel_rfl) (by kernel_rfl) (of_decide_eq_true (by kernel_rfl)) (fun p => p.1.1) (fun _ _ => ⟨rfl, rfl⟩) ev40
def c14 (N : Nat) : Cx := mkC tyL [(28, g28), (38, g38), (39, g39), (40, g40)] [] mtL N
def g14 : Sig := ⟨(.cons (.pure (.arr 128 (.int .u64))) .nl), (.cons (.own (.pair .str (.pair .str .nl))) .nl), (List (ByteArray × (ByteArray × Unit))), fun x => m_ticketlineref14_Pairs x.1, fun _ y => (y, ()), fun _ y => ((), ())⟩
def an14 : Nat → Ann := mkA [(3, ⟨[1, 4], [(3, (.pair .str (.pair .str .nl)))], [1], false⟩)]
noncomputable def k14 (N : Nat) : Ex → St → Option (List (ByteArray × (ByteArray × Unit))) := finK (c14 N) Try.f14 g14 (.cons .top .nl) (fun p => p.1.1)
def a14 : Nat → Ann := annP [] an14
def h14_0 (u0_0 : Int) (u0_1 : (List Int)) (u0_2 : (List (ByteArray × (ByteArray × Unit)))) : St := ⟨60, [(3, .full 300003), (1, (.ref 1 [])), (4, (.int .i64 u0_0))], [(1, (.arr (.int .u64) 128 u0_1)), (300003, (.bk (.pair .str (.pair .str .nl)) u0_2))]⟩
theorem t14_0 : ∀ (N : Nat) (n : Nat) (u0_0 : Int) (u0_1 : (List Int)) (u0_2 : (List (ByteArray × (ByteArray × Unit)))), loopAt (c14 N) a14 [1, 1, 0, 1, 0] [] (codeOf Try.f14) (k14 N) n (h14_0 u0_0 u0_1 u0_2) = m_ticketlineref14_Pairs_l0 N n u0_0 u0_1 u0_2 := by
  intro N n
  induction n with
  | zero => intro u0_0 u0_1 u0_2; kernel_rfl
  | succ n ih =>
    intro u0_0 u0_1 u0_2
    have e : loopAt (c14 N) a14 [1, 1, 0, 1, 0] [] (codeOf Try.f14) (k14 N) (n + 1) (h14_0 u0_0 u0_1 u0_2) = m_ticketlineref14_Pairs_l0_b (fun w0 w1 w2 => loopAt (c14 N) a14 [1, 1, 0, 1, 0] [] (codeOf Try.f14) (k14 N) n (h14_0 w0 w1 w2)) u0_0 u0_1 u0_2 := by kernel_rfl
    refine e.trans ?_
    have es : (fun w0 w1 w2 => loopAt (c14 N) a14 [1, 1, 0, 1, 0] [] (codeOf Try.f14) (k14 N) n (h14_0 w0 w1 w2)) = m_ticketlineref14_Pairs_l0 N n := by
      funext w0 w1 w2; exact ih w0 w1 w2
    rw [es]
    rw [m_ticketlineref14_Pairs_l0]
theorem ew14 : ∀ (N : Nat) (x : g14.ps.den), evalFn (c14 N) an14 Try.f14 (codeOf Try.f14) g14 x (fun p => p.1.1) = m_ticketlineref14_Pairs_a (m_ticketlineref14_Pairs_l0 N N) x.1 := by
  intro N
  intro x
  obtain ⟨x0, xu⟩ := x
  have e : evalFn (c14 N) an14 Try.f14 (codeOf Try.f14) g14 (x0, xu) (fun p => p.1.1) = m_ticketlineref14_Pairs_a (fun w0 w1 w2 => loopAt (c14 N) a14 [1, 1, 0, 1, 0] [] (codeOf Try.f14) (k14 N) N (h14_0 w0 w1 w2)) x0 := by kernel_rfl
  refine e.trans ?_
  have e0 : (fun w0 w1 w2 => loopAt (c14 N) a14 [1, 1, 0, 1, 0] [] (codeOf Try.f14) (k14 N) N (h14_0 w0 w1 w2)) = m_ticketlineref14_Pairs_l0 N N := by
    funext w0 w1 w2; exact t14_0 N N w0 w1 w2
  rw [e0]
theorem ev14 : ∀ x : g14.ps.den, evalFn (c14 FUEL) an14 Try.f14 (codeOf Try.f14) g14 x (fun p => p.1.1) = g14.m x := fun x => ew14 FUEL x
theorem meets14 : Meets Try.prog 14 g14 :=
  meets_of (C := c14 FUEL) (ann := an14) (mkC_ok (gs := [(28, g28), (38, g38), (39, g39), (40, g40)]) (is := []) (mt := mtL) tysOK elemOK ⟨meets28, meets38, meets39, meets40, trivial⟩ trivial mtOK FUEL) mixed Try.func14 (by kernel_rfl) (by kernel_rfl) (by kernel_rfl) (of_decide_eq_true (by kernel_rfl)) (fun p => p.1.1) (fun _ _ => ⟨rfl, rfl⟩) ev14
def c58 (N : Nat) : Cx := mkC tyL [] [] mtL N
def g58 : Sig := ⟨(.cons (.pure (.int .i64)) .nl), (.cons (.pure (.int .i64)) .nl), Int, fun x => m_keys_Words x.1, fun _ y => (y, ()), fun _ y => ((), ())⟩
def an58 : Nat → Ann := mkA []
theorem ev58 : ∀ x : g58.ps.den, evalFn (c58 FUEL) an58 Try.f58 (codeOf Try.f58) g58 x (fun p => p.1.1) = g58.m x := by
  intro x
  obtain ⟨x0, xu⟩ := x
  show _ = _
  kernel_rfl
theorem meets58 : Meets Try.prog 58 g58 :=
  meets_of (C := c58 FUEL) (ann := an58) (mkC_ok (gs := []) (is := []) (mt := mtL) tysOK elemOK trivial trivial mtOK FUEL) mixed Try.func58 (by kernel_rfl) (by kernel_rfl) (by kernel_rfl) (of_decide_eq_true (by kernel_rfl)) (fun p => p.1.1) (fun _ _ => ⟨rfl, rfl⟩) ev58
def c83 (N : Nat) : Cx := mkC tyL [(58, g58)] [] mtL N
def g83 : Sig := ⟨(.cons (.pure (.sl (.int .u64))) (.cons (.pure (.int .i64)) .nl)), (.cons (.pure .str) (.cons (.pure (.int .i64)) .nl)), (ByteArray × Int), fun x => m_keys_Unpack x.1 x.2.1, fun _ y => (y.1, (y.2, ())), fun _ y => ((), ((), ()))⟩
def an83 : Nat → Ann := mkA [(9, ⟨[1, 24, 25, 26], [(6, (.int .u8))], [], false⟩), (12, ⟨[1, 8, 9, 24, 25, 26], [(6, (.int .u8))], [], false⟩), (17, ⟨[1, 6, 45, 46, 47], [], [300006], false⟩)]
noncomputable def k83 (N : Nat) : Ex → St → Option (ByteArray × Int) := finK (c83 N) Try.f83 g83 (.cons .top (.cons .top .nl)) (fun p => (p.1.1, p.1.2.1))
def a83 : Nat → Ann := annP [] an83
def h83_1 (u1_0 : Int) (u1_1 : Int) (u1_2 : Int) (u1_3 : (List Int)) (u1_4 : Int) (u1_5 : Int) (u1_6 : (List Int)) : St := ⟨58, [(6, .full 300006), (1, (.int .i64 u1_0)), (8, (.int .u64 u1_1)), (9, (.int .i64 u1_2)), (24, (.lst (.int .u64) u1_3)), (25, (.int .i64 u1_4)), (26, (.int .i64 u1_5))], [(300006, (.bk (.int .u8) u1_6))]⟩
def h83_2 (u2_0 : Int) (u2_1 : Int) (u2_2 : Int) (u2_3 : Int) (u2_4 : Int) (u2_5 : (List Int)) : St := ⟨58, [(1, (.int .i64 u2_0)), (6, (.full 300006)), (45, (.view 300006 [] u2_1 u2_2)), (46, (.int .i64 u2_3)), (47, (.int .i64 u2_4))], [(300006, (.bk (.int .u8) u2_5))]⟩
def h83_0 (u0_0 : Int) (u0_1 : (List Int)) (u0_2 : Int) (u0_3 : Int) (u0_4 : (List Int)) : St := ⟨58, [(6, .full 300006), (1, (.int .i64 u0_0)), (24, (.lst (.int .u64) u0_1)), (25, (.int .i64 u0_2)), (26, (.int .i64 u0_3))], [(300006, (.bk (.int .u8) u0_4))]⟩
theorem t83_1 : ∀ (N : Nat) (m0 : Nat) (n : Nat) (u1_0 : Int) (u1_1 : Int) (u1_2 : Int) (u1_3 : (List Int)) (u1_4 : Int) (u1_5 : Int) (u1_6 : (List Int)), loopAt (c83 N) a83 [1, 1, 1, 0, 1, 0, 0, 1, 1, 0, 0, 1, 1, 0] [m0] (codeOf Try.f83) (k83 N) n (h83_1 u1_0 u1_1 u1_2 u1_3 u1_4 u1_5 u1_6) = m_keys_Unpack_l1 N (fun w0 w1 w2 w3 w4 => loopAt (c83 N) a83 [1, 1, 1, 0, 1, 0] [] (codeOf Try.f83) (k83 N) m0 (h83_0 w0 w1 w2 w3 w4)) n u1_0 u1_1 u1_2 u1_3 u1_4 u1_5 u1_6 := by
  intro N m0 n
  induction n with
  | zero => intro u1_0 u1_1 u1_2 u1_3 u1_4 u1_5 u1_6; kernel_rfl
  | succ n ih =>
    intro u1_0 u1_1 u1_2 u1_3 u1_4 u1_5 u1_6
    have e : loopAt (c83 N) a83 [1, 1, 1, 0, 1, 0, 0, 1, 1, 0, 0, 1, 1, 0] [m0] (codeOf Try.f83) (k83 N) (n + 1) (h83_1 u1_0 u1_1 u1_2 u1_3 u1_4 u1_5 u1_6) = m_keys_Unpack_l1_b (fun w0 w1 w2 w3 w4 => loopAt (c83 N) a83 [1, 1, 1, 0, 1, 0] [] (codeOf Try.f83) (k83 N) m0 (h83_0 w0 w1 w2 w3 w4)) (fun w0 w1 w2 w3 w4 w5 w6 => loopAt (c83 N) a83 [1, 1, 1, 0, 1, 0, 0, 1, 1, 0, 0, 1, 1, 0] [m0] (codeOf Try.f83) (k83 N) n (h83_1 w0 w1 w2 w3 w4 w5 w6)) u1_0 u1_1 u1_2 u1_3 u1_4 u1_5 u1_6 := by kernel_rfl
    refine e.trans ?_
    have es : (fun w0 w1 w2 w3 w4 w5 w6 => loopAt (c83 N) a83 [1, 1, 1, 0, 1, 0, 0, 1, 1, 0, 0, 1, 1, 0] [m0] (codeOf Try.f83) (k83 N) n (h83_1 w0 w1 w2 w3 w4 w5 w6)) = m_keys_Unpack_l1 N (fun w0 w1 w2 w3 w4 => loopAt (c83 N) a83 [1, 1, 1, 0, 1, 0] [] (codeOf Try.f83) (k83 N) m0 (h83_0 w0 w1 w2 w3 w4)) n := by
      funext w0 w1 w2 w3 w4 w5 w6; exact ih w0 w1 w2 w3 w4 w5 w6
    rw [es]
    rw [m_keys_Unpack_l1]
theorem t83_2 : ∀ (N : Nat) (n : Nat) (u2_0 : Int) (u2_1 : Int) (u2_2 : Int) (u2_3 : Int) (u2_4 : Int) (u2_5 : (List Int)), loopAt (c83 N) a83 [1, 1, 1, 1, 0, 1, 0] [] (codeOf Try.f83) (k83 N) n (h83_2 u2_0 u2_1 u2_2 u2_3 u2_4 u2_5) = m_keys_Unpack_l2 N n u2_0 u2_1 u2_2 u2_3 u2_4 u2_5 := by
  intro N n
  induction n with
  | zero => intro u2_0 u2_1 u2_2 u2_3 u2_4 u2_5; kernel_rfl
  | succ n ih =>
    intro u2_0 u2_1 u2_2 u2_3 u2_4 u2_5
    have e : loopAt (c83 N) a83 [1, 1, 1, 1, 0, 1, 0] [] (codeOf Try.f83) (k83 N) (n + 1) (h83_2 u2_0 u2_1 u2_2 u2_3 u2_4 u2_5) = m_keys_Unpack_l2_b (fun w0 w1 w2 w3 w4 w5 => loopAt (c83 N) a83 [1, 1, 1, 1, 0, 1, 0] [] (codeOf Try.f83) (k83 N) n (h83_2 w0 w1 w2 w3 w4 w5)) u2_0 u2_1 u2_2 u2_3 u2_4 u2_5 := by kernel_rfl
    refine e.trans ?_
    have es : (fun w0 w1 w2 w3 w4 w5 => loopAt (c83 N) a83 [1, 1, 1, 1, 0, 1, 0] [] (codeOf Try.f83) (k83 N) n (h83_2 w0 w1 w2 w3 w4 w5)) = m_keys_Unpack_l2 N n := by
      funext w0 w1 w2 w3 w4 w5; exact ih w0 w1 w2 w3 w4 w5
    rw [es]
    rw [m_keys_Unpack_l2]
theorem t83_0 : ∀ (N : Nat) (n : Nat) (u0_0 : Int) (u0_1 : (List Int)) (u0_2 : Int) (u0_3 : Int) (u0_4 : (List Int)), loopAt (c83 N) a83 [1, 1, 1, 0, 1, 0] [] (codeOf Try.f83) (k83 N) n (h83_0 u0_0 u0_1 u0_2 u0_3 u0_4) = m_keys_Unpack_l0 N n u0_0 u0_1 u0_2 u0_3 u0_4 := by
  intro N n
  induction n with
  | zero => intro u0_0 u0_1 u0_2 u0_3 u0_4; kernel_rfl
  | succ n ih =>
    intro u0_0 u0_1 u0_2 u0_3 u0_4
    have e : loopAt (c83 N) a83 [1, 1, 1, 0, 1, 0] [] (codeOf Try.f83) (k83 N) (n + 1) (h83_0 u0_0 u0_1 u0_2 u0_3 u0_4) = m_keys_Unpack_l0_b (fun w0 w1 w2 w3 w4 => loopAt (c83 N) a83 [1, 1, 1, 0, 1, 0] [] (codeOf Try.f83) (k83 N) n (h83_0 w0 w1 w2 w3 w4)) (fun w0 w1 w2 w3 w4 w5 w6 => loopAt (c83 N) a83 [1, 1, 1, 0, 1, 0, 0, 1, 1, 0, 0, 1, 1, 0] [n] (codeOf Try.f83) (k83 N) N (h83_1 w0 w1 w2 w3 w4 w5 w6)) (fun w0 w1 w2 w3 w4 w5 => loopAt (c83 N) a83 [1, 1, 1, 1, 0, 1, 0] [] (codeOf Try.f83) (k83 N) N (h83_2 w0 w1 w2 w3 w4 w5)) u0_0 u0_1 u0_2 u0_3 u0_4 := by kernel_rfl
    refine e.trans ?_
    have e1 : (fun w0 w1 w2 w3 w4 w5 w6 => loopAt (c83 N) a83 [1, 1, 1, 0, 1, 0, 0, 1, 1, 0, 0, 1, 1, 0] [n] (codeOf Try.f83) (k83 N) N (h83_1 w0 w1 w2 w3 w4 w5 w6)) = m_keys_Unpack_l1 N (fun w0 w1 w2 w3 w4 => loopAt (c83 N) a83 [1, 1, 1, 0, 1, 0] [] (codeOf Try.f83) (k83 N) n (h83_0 w0 w1 w2 w3 w4)) N := by
      funext w0 w1 w2 w3 w4 w5 w6; exact t83_1 N n N w0 w1 w2 w3 w4 w5 w6
    rw [e1]
    have e2 : (fun w0 w1 w2 w3 w4 w5 => loopAt (c83 N) a83 [1, 1, 1, 1, 0, 1, 0] [] (codeOf Try.f83) (k83 N) N (h83_2 w0 w1 w2 w3 w4 w5)) = m_keys_Unpack_l2 N N := by
      funext w0 w1 w2 w3 w4 w5; exact t83_2 N N w0 w1 w2 w3 w4 w5
    rw [e2]
    have es : (fun w0 w1 w2 w3 w4 => loopAt (c83 N) a83 [1, 1, 1, 0, 1, 0] [] (codeOf Try.f83) (k83 N) n (h83_0 w0 w1 w2 w3 w4)) = m_keys_Unpack_l0 N n := by
      funext w0 w1 w2 w3 w4; exact ih w0 w1 w2 w3 w4
    rw [es]
    rw [m_keys_Unpack_l0]
theorem ew83 : ∀ (N : Nat) (x : g83.ps.den), evalFn (c83 N) an83 Try.f83 (codeOf Try.f83) g83 x (fun p => (p.1.1, p.1.2.1)) = m_keys_Unpack_a (m_keys_Unpack_l0 N N) x.1 x.2.1 := by
  intro N
  intro x
  obtain ⟨x0, x1, xu⟩ := x
  have e : evalFn (c83 N) an83 Try.f83 (codeOf Try.f83) g83 (x0, x1, xu) (fun p => (p.1.1, p.1.2.1)) = m_keys_Unpack_a (fun w0 w1 w2 w3 w4 => loopAt (c83 N) a83 [1, 1, 1, 0, 1, 0] [] (codeOf Try.f83) (k83 N) N (h83_0 w0 w1 w2 w3 w4)) x0 x1 := by kernel_rfl
  refine e.trans ?_
  have e0 : (fun w0 w1 w2 w3 w4 => loopAt (c83 N) a83 [1, 1, 1, 0, 1, 0] [] (codeOf Try.f83) (k83 N) N (h83_0 w0 w1 w2 w3 w4)) = m_keys_Unpack_l0 N N := by
    funext w0 w1 w2 w3 w4; exact t83_0 N N w0 w1 w2 w3 w4
  rw [e0]
theorem ev83 : ∀ x : g83.ps.den, evalFn (c83 FUEL) an83 Try.f83 (codeOf Try.f83) g83 x (fun p => (p.1.1, p.1.2.1)) = g83.m x := fun x => ew83 FUEL x
theorem meets83 : Meets Try.prog 83 g83 :=
  meets_of (C := c83 FUEL) (ann := an83) (mkC_ok (gs := [(58, g58)]) (is := []) (mt := mtL) tysOK elemOK ⟨meets58, trivial⟩ trivial mtOK FUEL) mixed Try.func83 (by kernel_rfl) (by kernel_rfl) (by kernel_rfl) (of_decide_eq_true (by kernel_rfl)) (fun p => (p.1.1, p.1.2.1)) (fun _ _ => ⟨rfl, rfl⟩) ev83
def c82 (N : Nat) : Cx := mkC tyL [(58, g58), (83, g83)] [] mtL N
def g82 : Sig := ⟨(.cons (.rptr (.arr 128 (.int .u64))) (.cons (.pure (.int .i64)) .nl)), (.cons (.pure .str) (.cons (.pure (.int .i64)) .nl)), (ByteArray × Int), fun x => m_slot_fence x.1 x.2.1, fun _ y => (y.1, (y.2, ())), fun _ y => ((), ((), ()))⟩
def an82 : Nat → Ann := mkA [(6, ⟨[0, 1, 6, 7, 32, 33, 34], [], [], false⟩)]
noncomputable def k82 (N : Nat) : Ex → St → Option (ByteArray × Int) := finK (c82 N) Try.f82 g82 (.cons .top (.cons .top .nl)) (fun p => (p.1.1, p.1.2.1))
def a82 : Nat → Ann := annP [] an82
def h82_0 (u0_0 : (List Int)) (u0_1 : Int) (u0_2 : Int) (u0_3 : Int) (u0_4 : (List Int)) (u0_5 : Int) (u0_6 : Int) : St := ⟨51, [(0, (.pref (.arr 128 (.int .u64)) u0_0)), (1, (.int .i64 u0_1)), (6, (.int .i64 u0_2)), (7, (.int .i64 u0_3)), (32, (.lst (.int .u64) u0_4)), (33, (.int .i64 u0_5)), (34, (.int .i64 u0_6))], []⟩
theorem t82_0 : ∀ (N : Nat) (n : Nat) (u0_0 : (List Int)) (u0_1 : Int) (u0_2 : Int) (u0_3 : Int) (u0_4 : (List Int)) (u0_5 : Int) (u0_6 : Int), loopAt (c82 N) a82 [1, 1, 1, 1, 0, 1, 0] [] (codeOf Try.f82) (k82 N) n (h82_0 u0_0 u0_1 u0_2 u0_3 u0_4 u0_5 u0_6) = m_slot_fence_l0 N n u0_0 u0_1 u0_2 u0_3 u0_4 u0_5 u0_6 := by
  intro N n
  induction n with
  | zero => intro u0_0 u0_1 u0_2 u0_3 u0_4 u0_5 u0_6; kernel_rfl
  | succ n ih =>
    intro u0_0 u0_1 u0_2 u0_3 u0_4 u0_5 u0_6
    have e : loopAt (c82 N) a82 [1, 1, 1, 1, 0, 1, 0] [] (codeOf Try.f82) (k82 N) (n + 1) (h82_0 u0_0 u0_1 u0_2 u0_3 u0_4 u0_5 u0_6) = m_slot_fence_l0_b (fun w0 w1 w2 w3 w4 w5 w6 => loopAt (c82 N) a82 [1, 1, 1, 1, 0, 1, 0] [] (codeOf Try.f82) (k82 N) n (h82_0 w0 w1 w2 w3 w4 w5 w6)) u0_0 u0_1 u0_2 u0_3 u0_4 u0_5 u0_6 := by kernel_rfl
    refine e.trans ?_
    have es : (fun w0 w1 w2 w3 w4 w5 w6 => loopAt (c82 N) a82 [1, 1, 1, 1, 0, 1, 0] [] (codeOf Try.f82) (k82 N) n (h82_0 w0 w1 w2 w3 w4 w5 w6)) = m_slot_fence_l0 N n := by
      funext w0 w1 w2 w3 w4 w5 w6; exact ih w0 w1 w2 w3 w4 w5 w6
    rw [es]
    rw [m_slot_fence_l0]
theorem ew82 : ∀ (N : Nat) (x : g82.ps.den), evalFn (c82 N) an82 Try.f82 (codeOf Try.f82) g82 x (fun p => (p.1.1, p.1.2.1)) = m_slot_fence_a (m_slot_fence_l0 N N) x.1 x.2.1 := by
  intro N
  intro x
  obtain ⟨x0, x1, xu⟩ := x
  have e : evalFn (c82 N) an82 Try.f82 (codeOf Try.f82) g82 (x0, x1, xu) (fun p => (p.1.1, p.1.2.1)) = m_slot_fence_a (fun w0 w1 w2 w3 w4 w5 w6 => loopAt (c82 N) a82 [1, 1, 1, 1, 0, 1, 0] [] (codeOf Try.f82) (k82 N) N (h82_0 w0 w1 w2 w3 w4 w5 w6)) x0 x1 := by kernel_rfl
  refine e.trans ?_
  have e0 : (fun w0 w1 w2 w3 w4 w5 w6 => loopAt (c82 N) a82 [1, 1, 1, 1, 0, 1, 0] [] (codeOf Try.f82) (k82 N) N (h82_0 w0 w1 w2 w3 w4 w5 w6)) = m_slot_fence_l0 N N := by
    funext w0 w1 w2 w3 w4 w5 w6; exact t82_0 N N w0 w1 w2 w3 w4 w5 w6
  rw [e0]
theorem ev82 : ∀ x : g82.ps.den, evalFn (c82 FUEL) an82 Try.f82 (codeOf Try.f82) g82 x (fun p => (p.1.1, p.1.2.1)) = g82.m x := fun x => ew82 FUEL x
theorem meets82 : Meets Try.prog 82 g82 :=
  meets_of (C := c82 FUEL) (ann := an82) (mkC_ok (gs := [(58, g58), (83, g83)]) (is := []) (mt := mtL) tysOK elemOK ⟨meets58, meets83, trivial⟩ trivial mtOK FUEL) mixed Try.func82 (by kernel_rfl) (by kernel_rfl) (by kernel_rfl) (of_decide_eq_true (by kernel_rfl)) (fun p => (p.1.1, p.1.2.1)) (fun _ _ => ⟨rfl, rfl⟩) ev82
def c77 (N : Nat) : Cx := mkC tyL [(82, g82)] [] mtL N
def g77 : Sig := ⟨(.cons (.rptr (.arr 128 (.int .u64))) .nl), (.cons (.pure .bool) .nl), Bool, fun x => m_slot_head x.1, fun _ y => (y, ()), fun _ y => ((), ())⟩
def an77 : Nat → Ann := mkA []
theorem ev77 : ∀ x : g77.ps.den, evalFn (c77 FUEL) an77 Try.f77 (codeOf Try.f77) g77 x (fun p => p.1.1) = g77.m x := by
  intro x
  obtain ⟨x0, xu⟩ := x
  show _ = _
  kernel_rfl
theorem meets77 : Meets Try.prog 77 g77 :=
  meets_of (C := c77 FUEL) (ann := an77) (mkC_ok (gs := [(82, g82)]) (is := []) (mt := mtL) tysOK elemOK ⟨meets82, trivial⟩ trivial mtOK FUEL) mixed Try.func77 (by kernel_rfl) (by kernel_rfl) (by kernel_rfl) (of_decide_eq_true (by kernel_rfl)) (fun p => p.1.1) (fun _ _ => ⟨rfl, rfl⟩) ev77
def c79 (N : Nat) : Cx := mkC tyL [(58, g58)] [] mtL N
def g79 : Sig := ⟨(.cons (.pure (.int .u64)) .nl), (.cons (.pure (.pair (.int .i64) (.pair (.int .i64) (.pair (.int .i64) (.pair (.int .i64) (.pair (.int .i64) .nl)))))) .nl), (Int × (Int × (Int × (Int × (Int × Unit))))), fun x => m_slot_entryOf x.1, fun _ y => (y, ()), fun _ y => ((), ())⟩
def an79 : Nat → Ann := mkA []
theorem ev79 : ∀ x : g79.ps.den, evalFn (c79 FUEL) an79 Try.f79 (codeOf Try.f79) g79 x (fun p => p.1.1) = g79.m x := by
  intro x
  obtain ⟨x0, xu⟩ := x
  show _ = _
  kernel_rfl
theorem meets79 : Meets Try.prog 79 g79 :=
  meets_of (C := c79 FUEL) (ann := an79) (mkC_ok (gs := [(58, g58)]) (is := []) (mt := mtL) tysOK elemOK ⟨meets58, trivial⟩ trivial mtOK FUEL) mixed Try.func79 (by kernel_rfl) (by kernel_rfl) (by kernel_rfl) (of_decide_eq_true (by kernel_rfl)) (fun p => p.1.1) (fun _ _ => ⟨rfl, rfl⟩) ev79
def c78 (N : Nat) : Cx := mkC tyL [(79, g79)] [] mtL N
def g78 : Sig := ⟨(.cons (.rptr (.arr 128 (.int .u64))) (.cons (.pure (.int .i64)) .nl)), (.cons (.pure .bool) .nl), Bool, fun x => m_slot_sized x.1 x.2.1, fun _ y => (y, ()), fun _ y => ((), ((), ()))⟩
def an78 : Nat → Ann := mkA []
theorem ev78 : ∀ x : g78.ps.den, evalFn (c78 FUEL) an78 Try.f78 (codeOf Try.f78) g78 x (fun p => p.1.1) = g78.m x := by
  intro x
  obtain ⟨x0, x1, xu⟩ := x
  show _ = _
  kernel_rfl
theorem meets78 : Meets Try.prog 78 g78 :=
  meets_of (C := c78 FUEL) (ann := an78) (mkC_ok (gs := [(79, g79)]) (is := []) (mt := mtL) tysOK elemOK ⟨meets79, trivial⟩ trivial mtOK FUEL) mixed Try.func78 (by kernel_rfl) (by kernel_rfl) (by kernel_rfl) (of_decide_eq_true (by kernel_rfl)) (fun p => p.1.1) (fun _ _ => ⟨rfl, rfl⟩) ev78
def c80 (N : Nat) : Cx := mkC tyL [(83, g83)] [] mtL N
def g80 : Sig := ⟨(.cons (.rptr (.arr 128 (.int .u64))) (.cons (.pure (.pair (.int .i64) (.pair (.int .i64) (.pair (.int .i64) (.pair (.int .i64) (.pair (.int .i64) .nl)))))) .nl)), (.cons (.pure (.pair .str (.pair .str .nl))) (.cons (.pure (.int .i64)) .nl)), ((ByteArray × (ByteArray × Unit)) × Int), fun x => m_slot_text x.1 x.2.1, fun _ y => (y.1, (y.2, ())), fun _ y => ((), ((), ()))⟩
def an80 : Nat → Ann := mkA []
theorem ev80 : ∀ x : g80.ps.den, evalFn (c80 FUEL) an80 Try.f80 (codeOf Try.f80) g80 x (fun p => (p.1.1, p.1.2.1)) = g80.m x := by
  intro x
  obtain ⟨x0, x1, xu⟩ := x
  show _ = _
  kernel_rfl
theorem meets80 : Meets Try.prog 80 g80 :=
  meets_of (C := c80 FUEL) (ann := an80) (mkC_ok (gs := [(83, g83)]) (is := []) (mt := mtL) tysOK elemOK ⟨meets83, trivial⟩ trivial mtOK FUEL) mixed Try.func80 (by kernel_rfl) (by kernel_rfl) (by kernel_rfl) (of_decide_eq_true (by kernel_rfl)) (fun p => (p.1.1, p.1.2.1)) (fun _ _ => ⟨rfl, rfl⟩) ev80
def c65 (N : Nat) : Cx := mkC tyL [(77, g77), (78, g78), (79, g79), (80, g80)] [] mtL N
def g65 : Sig := ⟨(.cons (.rptr (.arr 128 (.int .u64))) .nl), (.cons (.own (.pair .str (.pair .str .nl))) (.cons (.pure .bool) .nl)), ((List (ByteArray × (ByteArray × Unit))) × Bool), fun x => m_slot_list x.1, fun _ y => (y.1, (y.2, ())), fun _ y => ((), ())⟩
def an65 : Nat → Ann := mkA [(6, ⟨[0, 5, 18, 19], [(4, (.pair .str (.pair .str .nl)))], [5], false⟩), (15, ⟨[0, 4, 5, 7, 8, 10, 18, 19], [], [300004, 5, 7, 8], false⟩)]
noncomputable def k65 (N : Nat) : Ex → St → Option ((List (ByteArray × (ByteArray × Unit))) × Bool) := finK (c65 N) Try.f65 g65 (.cons .top .nl) (fun p => (p.1.1, p.1.2.1))
def a65 : Nat → Ann := annP [] an65
def h65_1 (u1_0 : (List Int)) (u1_1 : Int) (u1_2 : Int) (u1_3 : Int) (u1_4 : (List (ByteArray × (ByteArray × Unit)))) (u1_5 : (List Bool)) (u1_6 : Int) (u1_7 : Int) (u1_8 : Int) (u1_9 : Int) (u1_10 : Int) (u1_11 : ByteArray) (u1_12 : ByteArray) : St := ⟨85, [(0, (.pref (.arr 128 (.int .u64)) u1_0)), (4, (.full 300004)), (5, (.ref 5 [])), (7, (.ref 7 [])), (8, (.ref 8 [])), (10, (.int .i64 u1_1)), (18, (.int .i64 u1_2)), (19, (.int .i64 u1_3))], [(300004, (.bk (.pair .str (.pair .str .nl)) u1_4)), (5, (.arr .bool 128 u1_5)), (7, (.cons (.int .i64 u1_6) (.cons (.int .i64 u1_7) (.cons (.int .i64 u1_8) (.cons (.int .i64 u1_9) (.cons (.int .i64 u1_10) .nl)))))), (8, (.cons (.str u1_11) (.cons (.str u1_12) .nl)))]⟩
def h65_0 (u0_0 : (List Int)) (u0_1 : Int) (u0_2 : Int) (u0_3 : (List Bool)) (u0_4 : (List (ByteArray × (ByteArray × Unit)))) : St := ⟨85, [(4, .full 300004), (0, (.pref (.arr 128 (.int .u64)) u0_0)), (5, (.ref 5 [])), (18, (.int .i64 u0_1)), (19, (.int .i64 u0_2))], [(5, (.arr .bool 128 u0_3)), (300004, (.bk (.pair .str (.pair .str .nl)) u0_4))]⟩
theorem t65_1 : ∀ (N : Nat) (m0 : Nat) (n : Nat) (u1_0 : (List Int)) (u1_1 : Int) (u1_2 : Int) (u1_3 : Int) (u1_4 : (List (ByteArray × (ByteArray × Unit)))) (u1_5 : (List Bool)) (u1_6 : Int) (u1_7 : Int) (u1_8 : Int) (u1_9 : Int) (u1_10 : Int) (u1_11 : ByteArray) (u1_12 : ByteArray), loopAt (c65 N) a65 [1, 1, 1, 1, 0, 1, 0, 0, 1, 1, 0, 0, 1, 1, 1, 1, 1, 0, 1, 0] [m0] (codeOf Try.f65) (k65 N) n (h65_1 u1_0 u1_1 u1_2 u1_3 u1_4 u1_5 u1_6 u1_7 u1_8 u1_9 u1_10 u1_11 u1_12) = m_slot_list_l1 N (fun w0 w1 w2 w3 w4 => loopAt (c65 N) a65 [1, 1, 1, 1, 0, 1, 0] [] (codeOf Try.f65) (k65 N) m0 (h65_0 w0 w1 w2 w3 w4)) n u1_0 u1_1 u1_2 u1_3 u1_4 u1_5 u1_6 u1_7 u1_8 u1_9 u1_10 u1_11 u1_12 := by
  intro N m0 n
  induction n with
  | zero => intro u1_0 u1_1 u1_2 u1_3 u1_4 u1_5 u1_6 u1_7 u1_8 u1_9 u1_10 u1_11 u1_12; kernel_rfl
  | succ n ih =>
    intro u1_0 u1_1 u1_2 u1_3 u1_4 u1_5 u1_6 u1_7 u1_8 u1_9 u1_10 u1_11 u1_12
    have e : loopAt (c65 N) a65 [1, 1, 1, 1, 0, 1, 0, 0, 1, 1, 0, 0, 1, 1, 1, 1, 1, 0, 1, 0] [m0] (codeOf Try.f65) (k65 N) (n + 1) (h65_1 u1_0 u1_1 u1_2 u1_3 u1_4 u1_5 u1_6 u1_7 u1_8 u1_9 u1_10 u1_11 u1_12) = m_slot_list_l1_b (fun w0 w1 w2 w3 w4 => loopAt (c65 N) a65 [1, 1, 1, 1, 0, 1, 0] [] (codeOf Try.f65) (k65 N) m0 (h65_0 w0 w1 w2 w3 w4)) (fun w0 w1 w2 w3 w4 w5 w6 w7 w8 w9 w10 w11 w12 => loopAt (c65 N) a65 [1, 1, 1, 1, 0, 1, 0, 0, 1, 1, 0, 0, 1, 1, 1, 1, 1, 0, 1, 0] [m0] (codeOf Try.f65) (k65 N) n (h65_1 w0 w1 w2 w3 w4 w5 w6 w7 w8 w9 w10 w11 w12)) u1_0 u1_1 u1_2 u1_3 u1_4 u1_5 u1_6 u1_7 u1_8 u1_9 u1_10 u1_11 u1_12 := by kernel_rfl
    refine e.trans ?_
    have es : (fun w0 w1 w2 w3 w4 w5 w6 w7 w8 w9 w10 w11 w12 => loopAt (c65 N) a65 [1, 1, 1, 1, 0, 1, 0, 0, 1, 1, 0, 0, 1, 1, 1, 1, 1, 0, 1, 0] [m0] (codeOf Try.f65) (k65 N) n (h65_1 w0 w1 w2 w3 w4 w5 w6 w7 w8 w9 w10 w11 w12)) = m_slot_list_l1 N (fun w0 w1 w2 w3 w4 => loopAt (c65 N) a65 [1, 1, 1, 1, 0, 1, 0] [] (codeOf Try.f65) (k65 N) m0 (h65_0 w0 w1 w2 w3 w4)) n := by
      funext w0 w1 w2 w3 w4 w5 w6 w7 w8 w9 w10 w11 w12; exact ih w0 w1 w2 w3 w4 w5 w6 w7 w8 w9 w10 w11 w12
    rw [es]
    rw [m_slot_list_l1]
theorem t65_0 : ∀ (N : Nat) (n : Nat) (u0_0 : (List Int)) (u0_1 : Int) (u0_2 : Int) (u0_3 : (List Bool)) (u0_4 : (List (ByteArray × (ByteArray × Unit)))), loopAt (c65 N) a65 [1, 1, 1, 1, 0, 1, 0] [] (codeOf Try.f65) (k65 N) n (h65_0 u0_0 u0_1 u0_2 u0_3 u0_4) = m_slot_list_l0 N n u0_0 u0_1 u0_2 u0_3 u0_4 := by
  intro N n
  induction n with
  | zero => intro u0_0 u0_1 u0_2 u0_3 u0_4; kernel_rfl
  | succ n ih =>
    intro u0_0 u0_1 u0_2 u0_3 u0_4
    have e : loopAt (c65 N) a65 [1, 1, 1, 1, 0, 1, 0] [] (codeOf Try.f65) (k65 N) (n + 1) (h65_0 u0_0 u0_1 u0_2 u0_3 u0_4) = m_slot_list_l0_b (fun w0 w1 w2 w3 w4 => loopAt (c65 N) a65 [1, 1, 1, 1, 0, 1, 0] [] (codeOf Try.f65) (k65 N) n (h65_0 w0 w1 w2 w3 w4)) (fun w0 w1 w2 w3 w4 w5 w6 w7 w8 w9 w10 w11 w12 => loopAt (c65 N) a65 [1, 1, 1, 1, 0, 1, 0, 0, 1, 1, 0, 0, 1, 1, 1, 1, 1, 0, 1, 0] [n] (codeOf Try.f65) (k65 N) N (h65_1 w0 w1 w2 w3 w4 w5 w6 w7 w8 w9 w10 w11 w12)) u0_0 u0_1 u0_2 u0_3 u0_4 := by kernel_rfl
    refine e.trans ?_
    have e1 : (fun w0 w1 w2 w3 w4 w5 w6 w7 w8 w9 w10 w11 w12 => loopAt (c65 N) a65 [1, 1, 1, 1, 0, 1, 0, 0, 1, 1, 0, 0, 1, 1, 1, 1, 1, 0, 1, 0] [n] (codeOf Try.f65) (k65 N) N (h65_1 w0 w1 w2 w3 w4 w5 w6 w7 w8 w9 w10 w11 w12)) = m_slot_list_l1 N (fun w0 w1 w2 w3 w4 => loopAt (c65 N) a65 [1, 1, 1, 1, 0, 1, 0] [] (codeOf Try.f65) (k65 N) n (h65_0 w0 w1 w2 w3 w4)) N := by
      funext w0 w1 w2 w3 w4 w5 w6 w7 w8 w9 w10 w11 w12; exact t65_1 N n N w0 w1 w2 w3 w4 w5 w6 w7 w8 w9 w10 w11 w12
    rw [e1]
    have es : (fun w0 w1 w2 w3 w4 => loopAt (c65 N) a65 [1, 1, 1, 1, 0, 1, 0] [] (codeOf Try.f65) (k65 N) n (h65_0 w0 w1 w2 w3 w4)) = m_slot_list_l0 N n := by
      funext w0 w1 w2 w3 w4; exact ih w0 w1 w2 w3 w4
    rw [es]
    rw [m_slot_list_l0]
theorem ew65 : ∀ (N : Nat) (x : g65.ps.den), evalFn (c65 N) an65 Try.f65 (codeOf Try.f65) g65 x (fun p => (p.1.1, p.1.2.1)) = m_slot_list_a (m_slot_list_l0 N N) x.1 := by
  intro N
  intro x
  obtain ⟨x0, xu⟩ := x
  have e : evalFn (c65 N) an65 Try.f65 (codeOf Try.f65) g65 (x0, xu) (fun p => (p.1.1, p.1.2.1)) = m_slot_list_a (fun w0 w1 w2 w3 w4 => loopAt (c65 N) a65 [1, 1, 1, 1, 0, 1, 0] [] (codeOf Try.f65) (k65 N) N (h65_0 w0 w1 w2 w3 w4)) x0 := by kernel_rfl
  refine e.trans ?_
  have e0 : (fun w0 w1 w2 w3 w4 => loopAt (c65 N) a65 [1, 1, 1, 1, 0, 1, 0] [] (codeOf Try.f65) (k65 N) N (h65_0 w0 w1 w2 w3 w4)) = m_slot_list_l0 N N := by
    funext w0 w1 w2 w3 w4; exact t65_0 N N w0 w1 w2 w3 w4
  rw [e0]
theorem ev65 : ∀ x : g65.ps.den, evalFn (c65 FUEL) an65 Try.f65 (codeOf Try.f65) g65 x (fun p => (p.1.1, p.1.2.1)) = g65.m x := fun x => ew65 FUEL x
theorem meets65 : Meets Try.prog 65 g65 :=
  meets_of (C := c65 FUEL) (ann := an65) (mkC_ok (gs := [(77, g77), (78, g78), (79, g79), (80, g80)]) (is := []) (mt := mtL) tysOK elemOK ⟨meets77, meets78, meets79, meets80, trivial⟩ trivial mtOK FUEL) mixed Try.func65 (by kernel_rfl) (by kernel_rfl) (by kernel_rfl) (of_decide_eq_true (by kernel_rfl)) (fun p => (p.1.1, p.1.2.1)) (fun _ _ => ⟨rfl, rfl⟩) ev65
def c45 (N : Nat) : Cx := mkC tyL [(65, g65)] [] mtL N
def g45 : Sig := ⟨(.cons (.pure (.arr 128 (.int .u64))) .nl), (.cons (.own (.pair .str (.pair .str .nl))) (.cons (.pure (.int .i64)) .nl)), ((List (ByteArray × (ByteArray × Unit))) × Int), fun x => m_slot_Pairs x.1, fun _ y => (y.1, (y.2, ())), fun _ y => ((), ())⟩
def an45 : Nat → Ann := mkA []
theorem ev45 : ∀ x : g45.ps.den, evalFn (c45 FUEL) an45 Try.f45 (codeOf Try.f45) g45 x (fun p => (p.1.1, p.1.2.1)) = g45.m x := by
  intro x
  obtain ⟨x0, xu⟩ := x
  show _ = _
  kernel_rfl
theorem meets45 : Meets Try.prog 45 g45 :=
  meets_of (C := c45 FUEL) (ann := an45) (mkC_ok (gs := [(65, g65)]) (is := []) (mt := mtL) tysOK elemOK ⟨meets65, trivial⟩ trivial mtOK FUEL) mixed Try.func45 (by kernel_rfl) (by kernel_rfl) (by kernel_rfl) (of_decide_eq_true (by kernel_rfl)) (fun p => (p.1.1, p.1.2.1)) (fun _ _ => ⟨rfl, rfl⟩) ev45
def c81 (N : Nat) : Cx := mkC tyL [(84, g84)] [] mtL N
def g81 : Sig := ⟨(.cons (.pure .str) (.cons (.pure .str) .nl)), (.cons (.pure (.int .i64)) .nl), Int, fun x => m_internal_bytealg_CompareString x.1 x.2.1, fun _ y => (y, ()), fun _ y => ((), ((), ()))⟩
def an81 : Nat → Ann := mkA []
theorem ev81 : ∀ x : g81.ps.den, evalFn (c81 FUEL) an81 Try.f81 (codeOf Try.f81) g81 x (fun p => p.1.1) = g81.m x := by
  intro x
  obtain ⟨x0, x1, xu⟩ := x
  show _ = _
  kernel_rfl
theorem meets81 : Meets Try.prog 81 g81 :=
  meets_of (C := c81 FUEL) (ann := an81) (mkC_ok (gs := [(84, g84)]) (is := []) (mt := mtL) tysOK elemOK ⟨meets84, trivial⟩ trivial mtOK FUEL) mixed Try.func81 (by kernel_rfl) (by kernel_rfl) (by kernel_rfl) (of_decide_eq_true (by kernel_rfl)) (fun p => p.1.1) (fun _ _ => ⟨rfl, rfl⟩) ev81
def c76 (N : Nat) : Cx := mkC tyL [(81, g81)] [] mtL N
def g76 : Sig := ⟨(.cons (.pure .str) (.cons (.pure .str) .nl)), (.cons (.pure (.int .i64)) .nl), Int, fun x => m_strings_Compare x.1 x.2.1, fun _ y => (y, ()), fun _ y => ((), ((), ()))⟩
def an76 : Nat → Ann := mkA []
theorem ev76 : ∀ x : g76.ps.den, evalFn (c76 FUEL) an76 Try.f76 (codeOf Try.f76) g76 x (fun p => p.1.1) = g76.m x := by
  intro x
  obtain ⟨x0, x1, xu⟩ := x
  show _ = _
  kernel_rfl
theorem meets76 : Meets Try.prog 76 g76 :=
  meets_of (C := c76 FUEL) (ann := an76) (mkC_ok (gs := [(81, g81)]) (is := []) (mt := mtL) tysOK elemOK ⟨meets81, trivial⟩ trivial mtOK FUEL) mixed Try.func76 (by kernel_rfl) (by kernel_rfl) (by kernel_rfl) (of_decide_eq_true (by kernel_rfl)) (fun p => p.1.1) (fun _ _ => ⟨rfl, rfl⟩) ev76
def c63 (N : Nat) : Cx := mkC tyL [(76, g76)] [] mtL N
def g63 : Sig := ⟨(.cons (.pure .str) (.cons (.pure .str) .nl)), (.cons (.pure (.int .i64)) .nl), Int, fun x => m_keys_Compare x.1 x.2.1, fun _ y => (y, ()), fun _ y => ((), ((), ()))⟩
def an63 : Nat → Ann := mkA []
theorem ev63 : ∀ x : g63.ps.den, evalFn (c63 FUEL) an63 Try.f63 (codeOf Try.f63) g63 x (fun p => p.1.1) = g63.m x := by
  intro x
  obtain ⟨x0, x1, xu⟩ := x
  show _ = _
  kernel_rfl
theorem meets63 : Meets Try.prog 63 g63 :=
  meets_of (C := c63 FUEL) (ann := an63) (mkC_ok (gs := [(76, g76)]) (is := []) (mt := mtL) tysOK elemOK ⟨meets76, trivial⟩ trivial mtOK FUEL) mixed Try.func63 (by kernel_rfl) (by kernel_rfl) (by kernel_rfl) (of_decide_eq_true (by kernel_rfl)) (fun p => p.1.1) (fun _ _ => ⟨rfl, rfl⟩) ev63
def c69 (N : Nat) : Cx := mkC tyL [(45, g45), (63, g63)] [] mtL N
def g69 : Sig := ⟨(.cons (.pure (.arr 128 (.int .u64))) .nl), (.cons (.own (.pair .str (.pair .str .nl))) (.cons (.pure (.int .i64)) .nl)), ((List (ByteArray × (ByteArray × Unit))) × Int), fun x => m_search_sorted x.1, fun _ y => (y.1, (y.2, ())), fun _ y => ((), ())⟩
def an69 : Nat → Ann := mkA [(5, ⟨[4, 6], [], [200288], false⟩)]
noncomputable def k69 (N : Nat) : Ex → St → Option ((List (ByteArray × (ByteArray × Unit))) × Int) := finK (c69 N) Try.f69 g69 (.cons .top .nl) (fun p => (p.1.1, p.1.2.1))
def a69 : Nat → Ann := annP [] an69
def h69_0 (u0_0 : Int) (u0_1 : (List (ByteArray × (ByteArray × Unit)))) : St := ⟨35, [(4, (.full 200288)), (6, (.int .i64 u0_0))], [(200288, (.bk (.pair .str (.pair .str .nl)) u0_1))]⟩
theorem t69_0 : ∀ (N : Nat) (n : Nat) (u0_0 : Int) (u0_1 : (List (ByteArray × (ByteArray × Unit)))), loopAt (c69 N) a69 [1, 1, 1, 0, 1, 0] [] (codeOf Try.f69) (k69 N) n (h69_0 u0_0 u0_1) = m_search_sorted_l0 N n u0_0 u0_1 := by
  intro N n
  induction n with
  | zero => intro u0_0 u0_1; kernel_rfl
  | succ n ih =>
    intro u0_0 u0_1
    have e : loopAt (c69 N) a69 [1, 1, 1, 0, 1, 0] [] (codeOf Try.f69) (k69 N) (n + 1) (h69_0 u0_0 u0_1) = m_search_sorted_l0_b (fun w0 w1 => loopAt (c69 N) a69 [1, 1, 1, 0, 1, 0] [] (codeOf Try.f69) (k69 N) n (h69_0 w0 w1)) u0_0 u0_1 := by kernel_rfl
    refine e.trans ?_
    have es : (fun w0 w1 => loopAt (c69 N) a69 [1, 1, 1, 0, 1, 0] [] (codeOf Try.f69) (k69 N) n (h69_0 w0 w1)) = m_search_sorted_l0 N n := by
      funext w0 w1; exact ih w0 w1
    rw [es]
    rw [m_search_sorted_l0]
theorem ew69 : ∀ (N : Nat) (x : g69.ps.den), evalFn (c69 N) an69 Try.f69 (codeOf Try.f69) g69 x (fun p => (p.1.1, p.1.2.1)) = m_search_sorted_a (m_search_sorted_l0 N N) x.1 := by
  intro N
  intro x
  obtain ⟨x0, xu⟩ := x
  have e : evalFn (c69 N) an69 Try.f69 (codeOf Try.f69) g69 (x0, xu) (fun p => (p.1.1, p.1.2.1)) = m_search_sorted_a (fun w0 w1 => loopAt (c69 N) a69 [1, 1, 1, 0, 1, 0] [] (codeOf Try.f69) (k69 N) N (h69_0 w0 w1)) x0 := by kernel_rfl
  refine e.trans ?_
  have e0 : (fun w0 w1 => loopAt (c69 N) a69 [1, 1, 1, 0, 1, 0] [] (codeOf Try.f69) (k69 N) N (h69_0 w0 w1)) = m_search_sorted_l0 N N := by
    funext w0 w1; exact t69_0 N N w0 w1
  rw [e0]
theorem ev69 : ∀ x : g69.ps.den, evalFn (c69 FUEL) an69 Try.f69 (codeOf Try.f69) g69 x (fun p => (p.1.1, p.1.2.1)) = g69.m x := fun x => ew69 FUEL x
theorem meets69 : Meets Try.prog 69 g69 :=
  meets_of (C := c69 FUEL) (ann := an69) (mkC_ok (gs := [(45, g45), (63, g63)]) (is := []) (mt := mtL) tysOK elemOK ⟨meets45, meets63, trivial⟩ trivial mtOK FUEL) mixed Try.func69 (by kernel_rfl) (by kernel_rfl) (by kernel_rfl) (of_decide_eq_true (by kernel_rfl)) (fun p => (p.1.1, p.1.2.1)) (fun _ _ => ⟨rfl, rfl⟩) ev69
def c70 (N : Nat) : Cx := mkC tyL [(63, g63)] [] mtL N
def g70 : Sig := ⟨(.cons (.pure (.sl (.pair .str (.pair .str .nl)))) (.cons (.pure .str) .nl)), (.cons (.pure (.int .i64)) (.cons (.pure .bool) .nl)), (Int × Bool), fun x => m_search_place x.1 x.2.1, fun _ y => (y.1, (y.2, ())), fun _ y => ((), ((), ()))⟩
def an70 : Nat → Ann := mkA [(2, ⟨[0, 1, 6, 7, 8], [], [], false⟩)]
noncomputable def k70 (N : Nat) : Ex → St → Option (Int × Bool) := finK (c70 N) Try.f70 g70 (.cons .top (.cons .top .nl)) (fun p => (p.1.1, p.1.2.1))
def a70 : Nat → Ann := annP [] an70
def h70_0 (u0_0 : (List (ByteArray × (ByteArray × Unit)))) (u0_1 : ByteArray) (u0_2 : Int) (u0_3 : Int) (u0_4 : Bool) : St := ⟨36, [(0, (.lst (.pair .str (.pair .str .nl)) u0_0)), (1, (.str u0_1)), (6, (.int .i64 u0_2)), (7, (.int .i64 u0_3)), (8, (.bool u0_4))], []⟩
theorem t70_0 : ∀ (N : Nat) (n : Nat) (u0_0 : (List (ByteArray × (ByteArray × Unit)))) (u0_1 : ByteArray) (u0_2 : Int) (u0_3 : Int) (u0_4 : Bool), loopAt (c70 N) a70 [1, 0, 1, 1, 0, 0] [] (codeOf Try.f70) (k70 N) n (h70_0 u0_0 u0_1 u0_2 u0_3 u0_4) = m_search_place_l0 N n u0_0 u0_1 u0_2 u0_3 u0_4 := by
  intro N n
  induction n with
  | zero => intro u0_0 u0_1 u0_2 u0_3 u0_4; kernel_rfl
  | succ n ih =>
    intro u0_0 u0_1 u0_2 u0_3 u0_4
    have e : loopAt (c70 N) a70 [1, 0, 1, 1, 0, 0] [] (codeOf Try.f70) (k70 N) (n + 1) (h70_0 u0_0 u0_1 u0_2 u0_3 u0_4) = m_search_place_l0_b (fun w0 w1 w2 w3 w4 => loopAt (c70 N) a70 [1, 0, 1, 1, 0, 0] [] (codeOf Try.f70) (k70 N) n (h70_0 w0 w1 w2 w3 w4)) u0_0 u0_1 u0_2 u0_3 u0_4 := by kernel_rfl
    refine e.trans ?_
    have es : (fun w0 w1 w2 w3 w4 => loopAt (c70 N) a70 [1, 0, 1, 1, 0, 0] [] (codeOf Try.f70) (k70 N) n (h70_0 w0 w1 w2 w3 w4)) = m_search_place_l0 N n := by
      funext w0 w1 w2 w3 w4; exact ih w0 w1 w2 w3 w4
    rw [es]
    rw [m_search_place_l0]
theorem ew70 : ∀ (N : Nat) (x : g70.ps.den), evalFn (c70 N) an70 Try.f70 (codeOf Try.f70) g70 x (fun p => (p.1.1, p.1.2.1)) = m_search_place_a (m_search_place_l0 N N) x.1 x.2.1 := by
  intro N
  intro x
  obtain ⟨x0, x1, xu⟩ := x
  have e : evalFn (c70 N) an70 Try.f70 (codeOf Try.f70) g70 (x0, x1, xu) (fun p => (p.1.1, p.1.2.1)) = m_search_place_a (fun w0 w1 w2 w3 w4 => loopAt (c70 N) a70 [1, 0, 1, 1, 0, 0] [] (codeOf Try.f70) (k70 N) N (h70_0 w0 w1 w2 w3 w4)) x0 x1 := by kernel_rfl
  refine e.trans ?_
  have e0 : (fun w0 w1 w2 w3 w4 => loopAt (c70 N) a70 [1, 0, 1, 1, 0, 0] [] (codeOf Try.f70) (k70 N) N (h70_0 w0 w1 w2 w3 w4)) = m_search_place_l0 N N := by
    funext w0 w1 w2 w3 w4; exact t70_0 N N w0 w1 w2 w3 w4
  rw [e0]
theorem ev70 : ∀ x : g70.ps.den, evalFn (c70 FUEL) an70 Try.f70 (codeOf Try.f70) g70 x (fun p => (p.1.1, p.1.2.1)) = g70.m x := fun x => ew70 FUEL x
theorem meets70 : Meets Try.prog 70 g70 :=
  meets_of (C := c70 FUEL) (ann := an70) (mkC_ok (gs := [(63, g63)]) (is := []) (mt := mtL) tysOK elemOK ⟨meets63, trivial⟩ trivial mtOK FUEL) mixed Try.func70 (by kernel_rfl) (by kernel_rfl) (by kernel_rfl) (of_decide_eq_true (by kernel_rfl)) (fun p => (p.1.1, p.1.2.1)) (fun _ _ => ⟨rfl, rfl⟩) ev70
def c53 (N : Nat) : Cx := mkC tyL [(69, g69), (70, g70)] [] mtL N
def g53 : Sig := ⟨(.cons (.pure (.arr 128 (.int .u64))) (.cons (.pure .str) .nl)), (.cons (.pure (.int .i64)) (.cons (.pure .bool) (.cons (.pure (.int .i64)) .nl))), (Int × Bool × Int), fun x => m_search_Find x.1 x.2.1, fun _ y => (y.1, (y.2.1, (y.2.2, ()))), fun _ y => ((), ((), ()))⟩
def an53 : Nat → Ann := mkA []
theorem ev53 : ∀ x : g53.ps.den, evalFn (c53 FUEL) an53 Try.f53 (codeOf Try.f53) g53 x (fun p => (p.1.1, p.1.2.1, p.1.2.2.1)) = g53.m x := by
  intro x
  obtain ⟨x0, x1, xu⟩ := x
  show _ = _
  kernel_rfl
theorem meets53 : Meets Try.prog 53 g53 :=
  meets_of (C := c53 FUEL) (ann := an53) (mkC_ok (gs := [(69, g69), (70, g70)]) (is := []) (mt := mtL) tysOK elemOK ⟨meets69, meets70, trivial⟩ trivial mtOK FUEL) mixed Try.func53 (by kernel_rfl) (by kernel_rfl) (by kernel_rfl) (of_decide_eq_true (by kernel_rfl)) (fun p => (p.1.1, p.1.2.1, p.1.2.2.1)) (fun _ _ => ⟨rfl, rfl⟩) ev53
def c71 (N : Nat) : Cx := mkC tyL [(65, g65)] [] mtL N
def g71 : Sig := ⟨(.cons (.pure (.arr 128 (.int .u64))) .nl), (.cons (.pure .bool) .nl), Bool, fun x => m_slot_Valid x.1, fun _ y => (y, ()), fun _ y => ((), ())⟩
def an71 : Nat → Ann := mkA []
theorem ev71 : ∀ x : g71.ps.den, evalFn (c71 FUEL) an71 Try.f71 (codeOf Try.f71) g71 x (fun p => p.1.1) = g71.m x := by
  intro x
  obtain ⟨x0, xu⟩ := x
  show _ = _
  kernel_rfl
theorem meets71 : Meets Try.prog 71 g71 :=
  meets_of (C := c71 FUEL) (ann := an71) (mkC_ok (gs := [(65, g65)]) (is := []) (mt := mtL) tysOK elemOK ⟨meets65, trivial⟩ trivial mtOK FUEL) mixed Try.func71 (by kernel_rfl) (by kernel_rfl) (by kernel_rfl) (of_decide_eq_true (by kernel_rfl)) (fun p => p.1.1) (fun _ _ => ⟨rfl, rfl⟩) ev71
def c54 (N : Nat) : Cx := mkC tyL [(71, g71)] [] mtL N
def g54 : Sig := ⟨(.cons (.pure (.arr 128 (.int .u64))) .nl), (.cons (.pure (.int .i64)) .nl), Int, fun x => m_slot_Level x.1, fun _ y => (y, ()), fun _ y => ((), ())⟩
def an54 : Nat → Ann := mkA []
theorem ev54 : ∀ x : g54.ps.den, evalFn (c54 FUEL) an54 Try.f54 (codeOf Try.f54) g54 x (fun p => p.1.1) = g54.m x := by
  intro x
  obtain ⟨x0, xu⟩ := x
  show _ = _
  kernel_rfl
theorem meets54 : Meets Try.prog 54 g54 :=
  meets_of (C := c54 FUEL) (ann := an54) (mkC_ok (gs := [(71, g71)]) (is := []) (mt := mtL) tysOK elemOK ⟨meets71, trivial⟩ trivial mtOK FUEL) mixed Try.func54 (by kernel_rfl) (by kernel_rfl) (by kernel_rfl) (of_decide_eq_true (by kernel_rfl)) (fun p => p.1.1) (fun _ _ => ⟨rfl, rfl⟩) ev54
def c73 (N : Nat) : Cx := mkC tyL [] [] mtL N
def g73 : Sig := ⟨(.cons (.pure .str) .nl), (.cons (.pure .bool) .nl), Bool, fun x => m_keys_ValidValue x.1, fun _ y => (y, ()), fun _ y => ((), ())⟩
def an73 : Nat → Ann := mkA []
theorem ev73 : ∀ x : g73.ps.den, evalFn (c73 FUEL) an73 Try.f73 (codeOf Try.f73) g73 x (fun p => p.1.1) = g73.m x := by
  intro x
  obtain ⟨x0, xu⟩ := x
  show _ = _
  kernel_rfl
theorem meets73 : Meets Try.prog 73 g73 :=
  meets_of (C := c73 FUEL) (ann := an73) (mkC_ok (gs := []) (is := []) (mt := mtL) tysOK elemOK trivial trivial mtOK FUEL) mixed Try.func73 (by kernel_rfl) (by kernel_rfl) (by kernel_rfl) (of_decide_eq_true (by kernel_rfl)) (fun p => p.1.1) (fun _ _ => ⟨rfl, rfl⟩) ev73
def c48 (N : Nat) : Cx := mkC tyL [] [] mtL N
def g48 : Sig := ⟨(.cons (.pure (.int .i64)) .nl), (.cons (.pure .str) (.cons (.pure (.int .i64)) .nl)), (ByteArray × Int), fun x => m_page_Number x.1, fun _ y => (y.1, (y.2, ())), fun _ y => ((), ())⟩
def an48 : Nat → Ann := mkA []
theorem ev48 : ∀ x : g48.ps.den, evalFn (c48 FUEL) an48 Try.f48 (codeOf Try.f48) g48 x (fun p => (p.1.1, p.1.2.1)) = g48.m x := by
  intro x
  obtain ⟨x0, xu⟩ := x
  show _ = _
  kernel_rfl
theorem meets48 : Meets Try.prog 48 g48 :=
  meets_of (C := c48 FUEL) (ann := an48) (mkC_ok (gs := []) (is := []) (mt := mtL) tysOK elemOK trivial trivial mtOK FUEL) mixed Try.func48 (by kernel_rfl) (by kernel_rfl) (by kernel_rfl) (of_decide_eq_true (by kernel_rfl)) (fun p => (p.1.1, p.1.2.1)) (fun _ _ => ⟨rfl, rfl⟩) ev48
def c75 (N : Nat) : Cx := mkC tyL [(48, g48)] [] mtL N
def g75 : Sig := ⟨(.cons (.pure .str) .nl), (.cons (.pure .bool) .nl), Bool, fun x => m_page_child x.1, fun _ y => (y, ()), fun _ y => ((), ())⟩
def an75 : Nat → Ann := mkA []
theorem ev75 : ∀ x : g75.ps.den, evalFn (c75 FUEL) an75 Try.f75 (codeOf Try.f75) g75 x (fun p => p.1.1) = g75.m x := by
  intro x
  obtain ⟨x0, xu⟩ := x
  show _ = _
  kernel_rfl
theorem meets75 : Meets Try.prog 75 g75 :=
  meets_of (C := c75 FUEL) (ann := an75) (mkC_ok (gs := [(48, g48)]) (is := []) (mt := mtL) tysOK elemOK ⟨meets48, trivial⟩ trivial mtOK FUEL) mixed Try.func75 (by kernel_rfl) (by kernel_rfl) (by kernel_rfl) (of_decide_eq_true (by kernel_rfl)) (fun p => p.1.1) (fun _ _ => ⟨rfl, rfl⟩) ev75
def c62 (N : Nat) : Cx := mkC tyL [(73, g73), (75, g75)] [] mtL N
def g62 : Sig := ⟨(.cons (.pure .bool) (.cons (.pure (.int .i64)) (.cons (.pure .str) (.cons (.pure .str) .nl)))), (.cons (.pure (.int .i64)) .nl), Int, fun x => m_page_allowed x.1 x.2.1 x.2.2.1 x.2.2.2.1, fun _ y => (y, ()), fun _ y => ((), ((), ((), ((), ()))))⟩
def an62 : Nat → Ann := mkA []
theorem ev62 : ∀ x : g62.ps.den, evalFn (c62 FUEL) an62 Try.f62 (codeOf Try.f62) g62 x (fun p => p.1.1) = g62.m x := by
  intro x
  obtain ⟨x0, x1, x2, x3, xu⟩ := x
  show _ = _
  kernel_rfl
theorem meets62 : Meets Try.prog 62 g62 :=
  meets_of (C := c62 FUEL) (ann := an62) (mkC_ok (gs := [(73, g73), (75, g75)]) (is := []) (mt := mtL) tysOK elemOK ⟨meets73, meets75, trivial⟩ trivial mtOK FUEL) mixed Try.func62 (by kernel_rfl) (by kernel_rfl) (by kernel_rfl) (of_decide_eq_true (by kernel_rfl)) (fun p => p.1.1) (fun _ _ => ⟨rfl, rfl⟩) ev62
def c50 (N : Nat) : Cx := mkC tyL [(53, g53), (54, g54), (62, g62)] [] mtL N
def g50 : Sig := ⟨(.cons (.pure (.arr 128 (.int .u64))) (.cons (.pure .str) (.cons (.pure .str) .nl))), (.cons (.pure (.int .i64)) (.cons (.pure .bool) (.cons (.pure (.int .i64)) .nl))), (Int × Bool × Int), fun x => m_page_find x.1 x.2.1 x.2.2.1, fun _ y => (y.1, (y.2.1, (y.2.2, ()))), fun _ y => ((), ((), ((), ())))⟩
def an50 : Nat → Ann := mkA []
theorem ev50 : ∀ x : g50.ps.den, evalFn (c50 FUEL) an50 Try.f50 (codeOf Try.f50) g50 x (fun p => (p.1.1, p.1.2.1, p.1.2.2.1)) = g50.m x := by
  intro x
  obtain ⟨x0, x1, x2, xu⟩ := x
  show _ = _
  kernel_rfl
theorem meets50 : Meets Try.prog 50 g50 :=
  meets_of (C := c50 FUEL) (ann := an50) (mkC_ok (gs := [(53, g53), (54, g54), (62, g62)]) (is := []) (mt := mtL) tysOK elemOK ⟨meets53, meets54, meets62, trivial⟩ trivial mtOK FUEL) mixed Try.func50 (by kernel_rfl) (by kernel_rfl) (by kernel_rfl) (of_decide_eq_true (by kernel_rfl)) (fun p => (p.1.1, p.1.2.1, p.1.2.2.1)) (fun _ _ => ⟨rfl, rfl⟩) ev50
def c57 (N : Nat) : Cx := mkC tyL [(58, g58)] [] mtL N
def g57 : Sig := ⟨(.cons (.pure .str) (.cons (.pure .str) .nl)), (.cons (.pure (.int .i64)) .nl), Int, fun x => m_slot_Cost x.1 x.2.1, fun _ y => (y, ()), fun _ y => ((), ((), ()))⟩
def an57 : Nat → Ann := mkA []
theorem ev57 : ∀ x : g57.ps.den, evalFn (c57 FUEL) an57 Try.f57 (codeOf Try.f57) g57 x (fun p => p.1.1) = g57.m x := by
  intro x
  obtain ⟨x0, x1, xu⟩ := x
  show _ = _
  kernel_rfl
theorem meets57 : Meets Try.prog 57 g57 :=
  meets_of (C := c57 FUEL) (ann := an57) (mkC_ok (gs := [(58, g58)]) (is := []) (mt := mtL) tysOK elemOK ⟨meets58, trivial⟩ trivial mtOK FUEL) mixed Try.func57 (by kernel_rfl) (by kernel_rfl) (by kernel_rfl) (of_decide_eq_true (by kernel_rfl)) (fun p => p.1.1) (fun _ _ => ⟨rfl, rfl⟩) ev57
def c67 (N : Nat) : Cx := mkC tyL [(57, g57), (65, g65)] [] mtL N
def g67 : Sig := ⟨(.cons (.pure (.arr 128 (.int .u64))) .nl), (.cons (.pure (.int .i64)) (.cons (.pure (.int .i64)) .nl)), (Int × Int), fun x => m_slot_Load x.1, fun _ y => (y.1, (y.2, ())), fun _ y => ((), ())⟩
def an67 : Nat → Ann := mkA [(6, ⟨[6, 15, 16, 17], [], [200320], false⟩)]
noncomputable def k67 (N : Nat) : Ex → St → Option (Int × Int) := finK (c67 N) Try.f67 g67 (.cons .top .nl) (fun p => (p.1.1, p.1.2.1))
def a67 : Nat → Ann := annP [] an67
def h67_0 (u0_0 : Int) (u0_1 : Int) (u0_2 : Int) (u0_3 : (List (ByteArray × (ByteArray × Unit)))) : St := ⟨30, [(6, (.int .i64 u0_0)), (15, (.full 200320)), (16, (.int .i64 u0_1)), (17, (.int .i64 u0_2))], [(200320, (.bk (.pair .str (.pair .str .nl)) u0_3))]⟩
theorem t67_0 : ∀ (N : Nat) (n : Nat) (u0_0 : Int) (u0_1 : Int) (u0_2 : Int) (u0_3 : (List (ByteArray × (ByteArray × Unit)))), loopAt (c67 N) a67 [1, 1, 1, 1, 0, 1, 0] [] (codeOf Try.f67) (k67 N) n (h67_0 u0_0 u0_1 u0_2 u0_3) = m_slot_Load_l0 N n u0_0 u0_1 u0_2 u0_3 := by
  intro N n
  induction n with
  | zero => intro u0_0 u0_1 u0_2 u0_3; kernel_rfl
  | succ n ih =>
    intro u0_0 u0_1 u0_2 u0_3
    have e : loopAt (c67 N) a67 [1, 1, 1, 1, 0, 1, 0] [] (codeOf Try.f67) (k67 N) (n + 1) (h67_0 u0_0 u0_1 u0_2 u0_3) = m_slot_Load_l0_b (fun w0 w1 w2 w3 => loopAt (c67 N) a67 [1, 1, 1, 1, 0, 1, 0] [] (codeOf Try.f67) (k67 N) n (h67_0 w0 w1 w2 w3)) u0_0 u0_1 u0_2 u0_3 := by kernel_rfl
    refine e.trans ?_
    have es : (fun w0 w1 w2 w3 => loopAt (c67 N) a67 [1, 1, 1, 1, 0, 1, 0] [] (codeOf Try.f67) (k67 N) n (h67_0 w0 w1 w2 w3)) = m_slot_Load_l0 N n := by
      funext w0 w1 w2 w3; exact ih w0 w1 w2 w3
    rw [es]
    rw [m_slot_Load_l0]
theorem ew67 : ∀ (N : Nat) (x : g67.ps.den), evalFn (c67 N) an67 Try.f67 (codeOf Try.f67) g67 x (fun p => (p.1.1, p.1.2.1)) = m_slot_Load_a (m_slot_Load_l0 N N) x.1 := by
  intro N
  intro x
  obtain ⟨x0, xu⟩ := x
  have e : evalFn (c67 N) an67 Try.f67 (codeOf Try.f67) g67 (x0, xu) (fun p => (p.1.1, p.1.2.1)) = m_slot_Load_a (fun w0 w1 w2 w3 => loopAt (c67 N) a67 [1, 1, 1, 1, 0, 1, 0] [] (codeOf Try.f67) (k67 N) N (h67_0 w0 w1 w2 w3)) x0 := by kernel_rfl
  refine e.trans ?_
  have e0 : (fun w0 w1 w2 w3 => loopAt (c67 N) a67 [1, 1, 1, 1, 0, 1, 0] [] (codeOf Try.f67) (k67 N) N (h67_0 w0 w1 w2 w3)) = m_slot_Load_l0 N N := by
    funext w0 w1 w2 w3; exact t67_0 N N w0 w1 w2 w3
  rw [e0]
theorem ev67 : ∀ x : g67.ps.den, evalFn (c67 FUEL) an67 Try.f67 (codeOf Try.f67) g67 x (fun p => (p.1.1, p.1.2.1)) = g67.m x := fun x => ew67 FUEL x
theorem meets67 : Meets Try.prog 67 g67 :=
  meets_of (C := c67 FUEL) (ann := an67) (mkC_ok (gs := [(57, g57), (65, g65)]) (is := []) (mt := mtL) tysOK elemOK ⟨meets57, meets65, trivial⟩ trivial mtOK FUEL) mixed Try.func67 (by kernel_rfl) (by kernel_rfl) (by kernel_rfl) (of_decide_eq_true (by kernel_rfl)) (fun p => (p.1.1, p.1.2.1)) (fun _ _ => ⟨rfl, rfl⟩) ev67
def c51 (N : Nat) : Cx := mkC tyL [(57, g57), (67, g67)] [] mtL N
def g51 : Sig := ⟨(.cons (.pure (.arr 128 (.int .u64))) (.cons (.pure .str) (.cons (.pure .str) (.cons (.pure (.int .i64)) .nl)))), (.cons (.pure (.int .i64)) .nl), Int, fun x => m_page_room x.1 x.2.1 x.2.2.1 x.2.2.2.1, fun _ y => (y, ()), fun _ y => ((), ((), ((), ((), ()))))⟩
def an51 : Nat → Ann := mkA []
theorem ev51 : ∀ x : g51.ps.den, evalFn (c51 FUEL) an51 Try.f51 (codeOf Try.f51) g51 x (fun p => p.1.1) = g51.m x := by
  intro x
  obtain ⟨x0, x1, x2, x3, xu⟩ := x
  show _ = _
  kernel_rfl
theorem meets51 : Meets Try.prog 51 g51 :=
  meets_of (C := c51 FUEL) (ann := an51) (mkC_ok (gs := [(57, g57), (67, g67)]) (is := []) (mt := mtL) tysOK elemOK ⟨meets57, meets67, trivial⟩ trivial mtOK FUEL) mixed Try.func51 (by kernel_rfl) (by kernel_rfl) (by kernel_rfl) (of_decide_eq_true (by kernel_rfl)) (fun p => p.1.1) (fun _ _ => ⟨rfl, rfl⟩) ev51
def c59 (N : Nat) : Cx := mkC tyL [(58, g58), (73, g73)] [] mtL N
def g59 : Sig := ⟨(.cons (.pure .str) .nl), (.cons (.own (.int .u64)) (.cons (.pure (.int .i64)) .nl)), ((List Int) × Int), fun x => m_keys_Pack x.1, fun _ y => (y.1, (y.2, ())), fun _ y => ((), ())⟩
def an59 : Nat → Ann := mkA [(5, ⟨[0, 14, 15], [(4, (.int .u64))], [], false⟩), (9, ⟨[0, 4, 5, 6, 14, 15, 18], [], [300004], false⟩)]
noncomputable def k59 (N : Nat) : Ex → St → Option ((List Int) × Int) := finK (c59 N) Try.f59 g59 (.cons .top .nl) (fun p => (p.1.1, p.1.2.1))
def a59 : Nat → Ann := annP [] an59
def h59_1 (u1_0 : ByteArray) (u1_1 : Int) (u1_2 : Int) (u1_3 : Int) (u1_4 : Int) (u1_5 : Int) (u1_6 : (List Int)) : St := ⟨44, [(0, (.str u1_0)), (4, (.full 300004)), (5, (.int .i64 u1_1)), (6, (.int .u64 u1_2)), (14, (.int .i64 u1_3)), (15, (.int .i64 u1_4)), (18, (.int .i64 u1_5))], [(300004, (.bk (.int .u64) u1_6))]⟩
def h59_0 (u0_0 : ByteArray) (u0_1 : Int) (u0_2 : Int) (u0_3 : (List Int)) : St := ⟨44, [(4, .full 300004), (0, (.str u0_0)), (14, (.int .i64 u0_1)), (15, (.int .i64 u0_2))], [(300004, (.bk (.int .u64) u0_3))]⟩
theorem t59_1 : ∀ (N : Nat) (m0 : Nat) (n : Nat) (u1_0 : ByteArray) (u1_1 : Int) (u1_2 : Int) (u1_3 : Int) (u1_4 : Int) (u1_5 : Int) (u1_6 : (List Int)), loopAt (c59 N) a59 [1, 1, 1, 0, 1, 0, 0, 1, 1, 0, 0, 1, 1, 0, 1, 0] [m0] (codeOf Try.f59) (k59 N) n (h59_1 u1_0 u1_1 u1_2 u1_3 u1_4 u1_5 u1_6) = m_keys_Pack_l1 N (fun w0 w1 w2 w3 => loopAt (c59 N) a59 [1, 1, 1, 0, 1, 0] [] (codeOf Try.f59) (k59 N) m0 (h59_0 w0 w1 w2 w3)) n u1_0 u1_1 u1_2 u1_3 u1_4 u1_5 u1_6 := by
  intro N m0 n
  induction n with
  | zero => intro u1_0 u1_1 u1_2 u1_3 u1_4 u1_5 u1_6; kernel_rfl
  | succ n ih =>
    intro u1_0 u1_1 u1_2 u1_3 u1_4 u1_5 u1_6
    have e : loopAt (c59 N) a59 [1, 1, 1, 0, 1, 0, 0, 1, 1, 0, 0, 1, 1, 0, 1, 0] [m0] (codeOf Try.f59) (k59 N) (n + 1) (h59_1 u1_0 u1_1 u1_2 u1_3 u1_4 u1_5 u1_6) = m_keys_Pack_l1_b (fun w0 w1 w2 w3 => loopAt (c59 N) a59 [1, 1, 1, 0, 1, 0] [] (codeOf Try.f59) (k59 N) m0 (h59_0 w0 w1 w2 w3)) (fun w0 w1 w2 w3 w4 w5 w6 => loopAt (c59 N) a59 [1, 1, 1, 0, 1, 0, 0, 1, 1, 0, 0, 1, 1, 0, 1, 0] [m0] (codeOf Try.f59) (k59 N) n (h59_1 w0 w1 w2 w3 w4 w5 w6)) u1_0 u1_1 u1_2 u1_3 u1_4 u1_5 u1_6 := by kernel_rfl
    refine e.trans ?_
    have es : (fun w0 w1 w2 w3 w4 w5 w6 => loopAt (c59 N) a59 [1, 1, 1, 0, 1, 0, 0, 1, 1, 0, 0, 1, 1, 0, 1, 0] [m0] (codeOf Try.f59) (k59 N) n (h59_1 w0 w1 w2 w3 w4 w5 w6)) = m_keys_Pack_l1 N (fun w0 w1 w2 w3 => loopAt (c59 N) a59 [1, 1, 1, 0, 1, 0] [] (codeOf Try.f59) (k59 N) m0 (h59_0 w0 w1 w2 w3)) n := by
      funext w0 w1 w2 w3 w4 w5 w6; exact ih w0 w1 w2 w3 w4 w5 w6
    rw [es]
    rw [m_keys_Pack_l1]
theorem t59_0 : ∀ (N : Nat) (n : Nat) (u0_0 : ByteArray) (u0_1 : Int) (u0_2 : Int) (u0_3 : (List Int)), loopAt (c59 N) a59 [1, 1, 1, 0, 1, 0] [] (codeOf Try.f59) (k59 N) n (h59_0 u0_0 u0_1 u0_2 u0_3) = m_keys_Pack_l0 N n u0_0 u0_1 u0_2 u0_3 := by
  intro N n
  induction n with
  | zero => intro u0_0 u0_1 u0_2 u0_3; kernel_rfl
  | succ n ih =>
    intro u0_0 u0_1 u0_2 u0_3
    have e : loopAt (c59 N) a59 [1, 1, 1, 0, 1, 0] [] (codeOf Try.f59) (k59 N) (n + 1) (h59_0 u0_0 u0_1 u0_2 u0_3) = m_keys_Pack_l0_b (fun w0 w1 w2 w3 => loopAt (c59 N) a59 [1, 1, 1, 0, 1, 0] [] (codeOf Try.f59) (k59 N) n (h59_0 w0 w1 w2 w3)) (fun w0 w1 w2 w3 w4 w5 w6 => loopAt (c59 N) a59 [1, 1, 1, 0, 1, 0, 0, 1, 1, 0, 0, 1, 1, 0, 1, 0] [n] (codeOf Try.f59) (k59 N) N (h59_1 w0 w1 w2 w3 w4 w5 w6)) u0_0 u0_1 u0_2 u0_3 := by kernel_rfl
    refine e.trans ?_
    have e1 : (fun w0 w1 w2 w3 w4 w5 w6 => loopAt (c59 N) a59 [1, 1, 1, 0, 1, 0, 0, 1, 1, 0, 0, 1, 1, 0, 1, 0] [n] (codeOf Try.f59) (k59 N) N (h59_1 w0 w1 w2 w3 w4 w5 w6)) = m_keys_Pack_l1 N (fun w0 w1 w2 w3 => loopAt (c59 N) a59 [1, 1, 1, 0, 1, 0] [] (codeOf Try.f59) (k59 N) n (h59_0 w0 w1 w2 w3)) N := by
      funext w0 w1 w2 w3 w4 w5 w6; exact t59_1 N n N w0 w1 w2 w3 w4 w5 w6
    rw [e1]
    have es : (fun w0 w1 w2 w3 => loopAt (c59 N) a59 [1, 1, 1, 0, 1, 0] [] (codeOf Try.f59) (k59 N) n (h59_0 w0 w1 w2 w3)) = m_keys_Pack_l0 N n := by
      funext w0 w1 w2 w3; exact ih w0 w1 w2 w3
    rw [es]
    rw [m_keys_Pack_l0]
theorem ew59 : ∀ (N : Nat) (x : g59.ps.den), evalFn (c59 N) an59 Try.f59 (codeOf Try.f59) g59 x (fun p => (p.1.1, p.1.2.1)) = m_keys_Pack_a (m_keys_Pack_l0 N N) x.1 := by
  intro N
  intro x
  obtain ⟨x0, xu⟩ := x
  have e : evalFn (c59 N) an59 Try.f59 (codeOf Try.f59) g59 (x0, xu) (fun p => (p.1.1, p.1.2.1)) = m_keys_Pack_a (fun w0 w1 w2 w3 => loopAt (c59 N) a59 [1, 1, 1, 0, 1, 0] [] (codeOf Try.f59) (k59 N) N (h59_0 w0 w1 w2 w3)) x0 := by kernel_rfl
  refine e.trans ?_
  have e0 : (fun w0 w1 w2 w3 => loopAt (c59 N) a59 [1, 1, 1, 0, 1, 0] [] (codeOf Try.f59) (k59 N) N (h59_0 w0 w1 w2 w3)) = m_keys_Pack_l0 N N := by
    funext w0 w1 w2 w3; exact t59_0 N N w0 w1 w2 w3
  rw [e0]
theorem ev59 : ∀ x : g59.ps.den, evalFn (c59 FUEL) an59 Try.f59 (codeOf Try.f59) g59 x (fun p => (p.1.1, p.1.2.1)) = g59.m x := fun x => ew59 FUEL x
theorem meets59 : Meets Try.prog 59 g59 :=
  meets_of (C := c59 FUEL) (ann := an59) (mkC_ok (gs := [(58, g58), (73, g73)]) (is := []) (mt := mtL) tysOK elemOK ⟨meets58, meets73, trivial⟩ trivial mtOK FUEL) mixed Try.func59 (by kernel_rfl) (by kernel_rfl) (by kernel_rfl) (of_decide_eq_true (by kernel_rfl)) (fun p => (p.1.1, p.1.2.1)) (fun _ _ => ⟨rfl, rfl⟩) ev59
def c66 (N : Nat) : Cx := mkC tyL [(59, g59)] [] mtL N
def g66 : Sig := ⟨(.cons (.ptr (.pure (.arr 128 (.int .u64)))) (.cons (.pure .str) (.cons (.pure .str) .nl))), .nl, (List Int), fun x => m_page_record x.1 x.2.1 x.2.2.1, fun _ y => (), fun _ y => (y, ((), ((), ())))⟩
def an66 : Nat → Ann := mkA []
theorem ev66 : ∀ x : g66.ps.den, evalFn (c66 FUEL) an66 Try.f66 (codeOf Try.f66) g66 x (fun p => p.2.1) = g66.m x := by
  intro x
  obtain ⟨x0, x1, x2, xu⟩ := x
  show _ = _
  kernel_rfl
theorem meets66 : Meets Try.prog 66 g66 :=
  meets_of (C := c66 FUEL) (ann := an66) (mkC_ok (gs := [(59, g59)]) (is := []) (mt := mtL) tysOK elemOK ⟨meets59, trivial⟩ trivial mtOK FUEL) mixed Try.func66 (by kernel_rfl) (by kernel_rfl) (by kernel_rfl) (of_decide_eq_true (by kernel_rfl)) (fun p => p.2.1) (fun _ _ => ⟨rfl, rfl⟩) ev66
def c46 (N : Nat) : Cx := mkC tyL [(66, g66)] [] mtL N
def g46 : Sig := ⟨(.cons (.ptr (.pure (.arr 128 (.int .u64)))) (.cons (.pure (.sl (.pair .str (.pair .str .nl)))) .nl)), .nl, (List Int), fun x => m_page_compact x.1 x.2.1, fun _ y => (), fun _ y => (y, ((), ()))⟩
def an46 : Nat → Ann := mkA [(3, ⟨[0, 15, 16, 17], [], [], false⟩)]
noncomputable def k46 (N : Nat) : Ex → St → Option (List Int) := finK (c46 N) Try.f46 g46 (.cons (.ref 100000 []) (.cons .top .nl)) (fun p => p.2.1)
def a46 : Nat → Ann := annP [100000] an46
def h46_0 (u0_0 : (List (ByteArray × (ByteArray × Unit)))) (u0_1 : Int) (u0_2 : Int) (u0_3 : (List Int)) : St := ⟨28, [(0, (.ref 100000 [])), (15, (.lst (.pair .str (.pair .str .nl)) u0_0)), (16, (.int .i64 u0_1)), (17, (.int .i64 u0_2))], [(100000, (.arr (.int .u64) 128 u0_3))]⟩
theorem t46_0 : ∀ (N : Nat) (n : Nat) (u0_0 : (List (ByteArray × (ByteArray × Unit)))) (u0_1 : Int) (u0_2 : Int) (u0_3 : (List Int)), loopAt (c46 N) a46 [1, 1, 1, 0] [] (codeOf Try.f46) (k46 N) n (h46_0 u0_0 u0_1 u0_2 u0_3) = m_page_compact_l0 N n u0_0 u0_1 u0_2 u0_3 := by
  intro N n
  induction n with
  | zero => intro u0_0 u0_1 u0_2 u0_3; kernel_rfl
  | succ n ih =>
    intro u0_0 u0_1 u0_2 u0_3
    have e : loopAt (c46 N) a46 [1, 1, 1, 0] [] (codeOf Try.f46) (k46 N) (n + 1) (h46_0 u0_0 u0_1 u0_2 u0_3) = m_page_compact_l0_b (fun w0 w1 w2 w3 => loopAt (c46 N) a46 [1, 1, 1, 0] [] (codeOf Try.f46) (k46 N) n (h46_0 w0 w1 w2 w3)) u0_0 u0_1 u0_2 u0_3 := by kernel_rfl
    refine e.trans ?_
    have es : (fun w0 w1 w2 w3 => loopAt (c46 N) a46 [1, 1, 1, 0] [] (codeOf Try.f46) (k46 N) n (h46_0 w0 w1 w2 w3)) = m_page_compact_l0 N n := by
      funext w0 w1 w2 w3; exact ih w0 w1 w2 w3
    rw [es]
    rw [m_page_compact_l0]
theorem ew46 : ∀ (N : Nat) (x : g46.ps.den), evalFn (c46 N) an46 Try.f46 (codeOf Try.f46) g46 x (fun p => p.2.1) = m_page_compact_a (m_page_compact_l0 N N) x.1 x.2.1 := by
  intro N
  intro x
  obtain ⟨x0, x1, xu⟩ := x
  have e : evalFn (c46 N) an46 Try.f46 (codeOf Try.f46) g46 (x0, x1, xu) (fun p => p.2.1) = m_page_compact_a (fun w0 w1 w2 w3 => loopAt (c46 N) a46 [1, 1, 1, 0] [] (codeOf Try.f46) (k46 N) N (h46_0 w0 w1 w2 w3)) x0 x1 := by kernel_rfl
  refine e.trans ?_
  have e0 : (fun w0 w1 w2 w3 => loopAt (c46 N) a46 [1, 1, 1, 0] [] (codeOf Try.f46) (k46 N) N (h46_0 w0 w1 w2 w3)) = m_page_compact_l0 N N := by
    funext w0 w1 w2 w3; exact t46_0 N N w0 w1 w2 w3
  rw [e0]
theorem ev46 : ∀ x : g46.ps.den, evalFn (c46 FUEL) an46 Try.f46 (codeOf Try.f46) g46 x (fun p => p.2.1) = g46.m x := fun x => ew46 FUEL x
theorem meets46 : Meets Try.prog 46 g46 :=
  meets_of (C := c46 FUEL) (ann := an46) (mkC_ok (gs := [(66, g66)]) (is := []) (mt := mtL) tysOK elemOK ⟨meets66, trivial⟩ trivial mtOK FUEL) mixed Try.func46 (by kernel_rfl) (by kernel_rfl) (by kernel_rfl) (of_decide_eq_true (by kernel_rfl)) (fun p => p.2.1) (fun _ _ => ⟨rfl, rfl⟩) ev46
def c68 (N : Nat) : Cx := mkC tyL [(71, g71)] [] mtL N
def g68 : Sig := ⟨(.cons (.pure (.arr 128 (.int .u64))) .nl), (.cons (.pure (.int .i64)) (.cons (.pure (.int .i64)) .nl)), (Int × Int), fun x => m_slot_Gap x.1, fun _ y => (y.1, (y.2, ())), fun _ y => ((), ())⟩
def an68 : Nat → Ann := mkA []
theorem ev68 : ∀ x : g68.ps.den, evalFn (c68 FUEL) an68 Try.f68 (codeOf Try.f68) g68 x (fun p => (p.1.1, p.1.2.1)) = g68.m x := by
  intro x
  obtain ⟨x0, xu⟩ := x
  show _ = _
  kernel_rfl
theorem meets68 : Meets Try.prog 68 g68 :=
  meets_of (C := c68 FUEL) (ann := an68) (mkC_ok (gs := [(71, g71)]) (is := []) (mt := mtL) tysOK elemOK ⟨meets71, trivial⟩ trivial mtOK FUEL) mixed Try.func68 (by kernel_rfl) (by kernel_rfl) (by kernel_rfl) (of_decide_eq_true (by kernel_rfl)) (fun p => (p.1.1, p.1.2.1)) (fun _ _ => ⟨rfl, rfl⟩) ev68
def c52 (N : Nat) : Cx := mkC tyL [(45, g45), (46, g46), (57, g57), (66, g66), (68, g68)] [] mtL N
def g52 : Sig := ⟨(.cons (.ptr (.pure (.arr 128 (.int .u64)))) (.cons (.pure (.int .i64)) (.cons (.pure .str) (.cons (.pure .str) .nl)))), (.cons (.pure (.int .i64)) .nl), (Int × (List Int)), fun x => m_page_add x.1 x.2.1 x.2.2.1 x.2.2.2.1, fun _ y => (y.1, ()), fun _ y => (y.2, ((), ((), ((), ()))))⟩
def an52 : Nat → Ann := mkA []
theorem ev52 : ∀ x : g52.ps.den, evalFn (c52 FUEL) an52 Try.f52 (codeOf Try.f52) g52 x (fun p => (p.1.1, p.2.1)) = g52.m x := by
  intro x
  obtain ⟨x0, x1, x2, x3, xu⟩ := x
  show _ = _
  kernel_rfl
theorem meets52 : Meets Try.prog 52 g52 :=
  meets_of (C := c52 FUEL) (ann := an52) (mkC_ok (gs := [(45, g45), (46, g46), (57, g57), (66, g66), (68, g68)]) (is := []) (mt := mtL) tysOK elemOK ⟨meets45, meets46, meets57, meets66, meets68, trivial⟩ trivial mtOK FUEL) mixed Try.func52 (by kernel_rfl) (by kernel_rfl) (by kernel_rfl) (of_decide_eq_true (by kernel_rfl)) (fun p => (p.1.1, p.2.1)) (fun _ _ => ⟨rfl, rfl⟩) ev52
def c29 (N : Nat) : Cx := mkC tyL [(50, g50), (51, g51), (52, g52)] [] mtL N
def g29 : Sig := ⟨(.cons (.pure (.arr 128 (.int .u64))) (.cons (.pure .str) (.cons (.pure .str) .nl))), (.cons (.pure (.arr 128 (.int .u64))) (.cons (.pure (.int .i64)) .nl)), ((List Int) × Int), fun x => m_page_Insert x.1 x.2.1 x.2.2.1, fun _ y => (y.1, (y.2, ())), fun _ y => ((), ((), ((), ())))⟩
def an29 : Nat → Ann := mkA []
theorem ev29 : ∀ x : g29.ps.den, evalFn (c29 FUEL) an29 Try.f29 (codeOf Try.f29) g29 x (fun p => (p.1.1, p.1.2.1)) = g29.m x := by
  intro x
  obtain ⟨x0, x1, x2, xu⟩ := x
  show _ = _
  kernel_rfl
theorem meets29 : Meets Try.prog 29 g29 :=
  meets_of (C := c29 FUEL) (ann := an29) (mkC_ok (gs := [(50, g50), (51, g51), (52, g52)]) (is := []) (mt := mtL) tysOK elemOK ⟨meets50, meets51, meets52, trivial⟩ trivial mtOK FUEL) mixed Try.func29 (by kernel_rfl) (by kernel_rfl) (by kernel_rfl) (of_decide_eq_true (by kernel_rfl)) (fun p => (p.1.1, p.1.2.1)) (fun _ _ => ⟨rfl, rfl⟩) ev29
def c16 (N : Nat) : Cx := mkC tyL [(29, g29)] [] mtL N
def g16 : Sig := ⟨(.cons (.pure (.arr 128 (.int .u64))) (.cons (.pure .str) (.cons (.pure .str) (.cons (.pure (.arr 128 (.int .u64))) (.cons (.pure (.int .i64)) .nl))))), (.cons (.pure .bool) .nl), Bool, fun x => m_ticketlinelaw16_inserts x.1 x.2.1 x.2.2.1 x.2.2.2.1 x.2.2.2.2.1, fun _ y => (y, ()), fun _ y => ((), ((), ((), ((), ((), ())))))⟩
def an16 : Nat → Ann := mkA []
theorem ev16 : ∀ x : g16.ps.den, evalFn (c16 FUEL) an16 Try.f16 (codeOf Try.f16) g16 x (fun p => p.1.1) = g16.m x := by
  intro x
  obtain ⟨x0, x1, x2, x3, x4, xu⟩ := x
  show _ = _
  kernel_rfl
theorem meets16 : Meets Try.prog 16 g16 :=
  meets_of (C := c16 FUEL) (ann := an16) (mkC_ok (gs := [(29, g29)]) (is := []) (mt := mtL) tysOK elemOK ⟨meets29, trivial⟩ trivial mtOK FUEL) mixed Try.func16 (by kernel_rfl) (by kernel_rfl) (by kernel_rfl) (of_decide_eq_true (by kernel_rfl)) (fun p => p.1.1) (fun _ _ => ⟨rfl, rfl⟩) ev16
def c72 (N : Nat) : Cx := mkC tyL [(65, g65)] [] mtL N
def g72 : Sig := ⟨(.cons (.rptr (.arr 128 (.int .u64))) (.cons (.pure (.int .i64)) .nl)), (.cons (.pure (.pair .str (.pair .str .nl))) (.cons (.pure (.int .i64)) .nl)), ((ByteArray × (ByteArray × Unit)) × Int), fun x => m_slot_pair x.1 x.2.1, fun _ y => (y.1, (y.2, ())), fun _ y => ((), ((), ()))⟩
def an72 : Nat → Ann := mkA []
theorem ev72 : ∀ x : g72.ps.den, evalFn (c72 FUEL) an72 Try.f72 (codeOf Try.f72) g72 x (fun p => (p.1.1, p.1.2.1)) = g72.m x := by
  intro x
  obtain ⟨x0, x1, xu⟩ := x
  show _ = _
  kernel_rfl
theorem meets72 : Meets Try.prog 72 g72 :=
  meets_of (C := c72 FUEL) (ann := an72) (mkC_ok (gs := [(65, g65)]) (is := []) (mt := mtL) tysOK elemOK ⟨meets65, trivial⟩ trivial mtOK FUEL) mixed Try.func72 (by kernel_rfl) (by kernel_rfl) (by kernel_rfl) (of_decide_eq_true (by kernel_rfl)) (fun p => (p.1.1, p.1.2.1)) (fun _ _ => ⟨rfl, rfl⟩) ev72
def c55 (N : Nat) : Cx := mkC tyL [(72, g72)] [] mtL N
def g55 : Sig := ⟨(.cons (.pure (.arr 128 (.int .u64))) (.cons (.pure (.int .i64)) .nl)), (.cons (.pure .str) (.cons (.pure (.int .i64)) .nl)), (ByteArray × Int), fun x => m_slot_Value x.1 x.2.1, fun _ y => (y.1, (y.2, ())), fun _ y => ((), ((), ()))⟩
def an55 : Nat → Ann := mkA []
theorem ev55 : ∀ x : g55.ps.den, evalFn (c55 FUEL) an55 Try.f55 (codeOf Try.f55) g55 x (fun p => (p.1.1, p.1.2.1)) = g55.m x := by
  intro x
  obtain ⟨x0, x1, xu⟩ := x
  show _ = _
  kernel_rfl
theorem meets55 : Meets Try.prog 55 g55 :=
  meets_of (C := c55 FUEL) (ann := an55) (mkC_ok (gs := [(72, g72)]) (is := []) (mt := mtL) tysOK elemOK ⟨meets72, trivial⟩ trivial mtOK FUEL) mixed Try.func55 (by kernel_rfl) (by kernel_rfl) (by kernel_rfl) (of_decide_eq_true (by kernel_rfl)) (fun p => (p.1.1, p.1.2.1)) (fun _ _ => ⟨rfl, rfl⟩) ev55
def c56 (N : Nat) : Cx := mkC tyL [] [] mtL N
def g56 : Sig := ⟨(.cons (.ptr (.pure (.arr 128 (.int .u64)))) (.cons (.pure (.int .i64)) .nl)), .nl, (List Int), fun x => m_page_take x.1 x.2.1, fun _ y => (), fun _ y => (y, ((), ()))⟩
def an56 : Nat → Ann := mkA []
theorem ev56 : ∀ x : g56.ps.den, evalFn (c56 FUEL) an56 Try.f56 (codeOf Try.f56) g56 x (fun p => p.2.1) = g56.m x := by
  intro x
  obtain ⟨x0, x1, xu⟩ := x
  show _ = _
  kernel_rfl
theorem meets56 : Meets Try.prog 56 g56 :=
  meets_of (C := c56 FUEL) (ann := an56) (mkC_ok (gs := []) (is := []) (mt := mtL) tysOK elemOK trivial trivial mtOK FUEL) mixed Try.func56 (by kernel_rfl) (by kernel_rfl) (by kernel_rfl) (of_decide_eq_true (by kernel_rfl)) (fun p => p.2.1) (fun _ _ => ⟨rfl, rfl⟩) ev56
def c30 (N : Nat) : Cx := mkC tyL [(53, g53), (54, g54), (55, g55), (56, g56)] [] mtL N
def g30 : Sig := ⟨(.cons (.pure (.arr 128 (.int .u64))) (.cons (.pure .str) .nl)), (.cons (.pure (.arr 128 (.int .u64))) (.cons (.pure .str) (.cons (.pure (.int .i64)) .nl))), ((List Int) × ByteArray × Int), fun x => m_page_Remove x.1 x.2.1, fun _ y => (y.1, (y.2.1, (y.2.2, ()))), fun _ y => ((), ((), ()))⟩
def an30 : Nat → Ann := mkA []
theorem ev30 : ∀ x : g30.ps.den, evalFn (c30 FUEL) an30 Try.f30 (codeOf Try.f30) g30 x (fun p => (p.1.1, p.1.2.1, p.1.2.2.1)) = g30.m x := by
  intro x
  obtain ⟨x0, x1, xu⟩ := x
  show _ = _
  kernel_rfl
theorem meets30 : Meets Try.prog 30 g30 :=
  meets_of (C := c30 FUEL) (ann := an30) (mkC_ok (gs := [(53, g53), (54, g54), (55, g55), (56, g56)]) (is := []) (mt := mtL) tysOK elemOK ⟨meets53, meets54, meets55, meets56, trivial⟩ trivial mtOK FUEL) mixed Try.func30 (by kernel_rfl) (by kernel_rfl) (by kernel_rfl) (of_decide_eq_true (by kernel_rfl)) (fun p => (p.1.1, p.1.2.1, p.1.2.2.1)) (fun _ _ => ⟨rfl, rfl⟩) ev30
def c19 (N : Nat) : Cx := mkC tyL [(30, g30)] [] mtL N
def g19 : Sig := ⟨(.cons (.pure (.arr 128 (.int .u64))) (.cons (.pure .str) (.cons (.pure (.arr 128 (.int .u64))) (.cons (.pure .str) (.cons (.pure (.int .i64)) .nl))))), (.cons (.pure .bool) .nl), Bool, fun x => m_ticketlinelaw16_removes x.1 x.2.1 x.2.2.1 x.2.2.2.1 x.2.2.2.2.1, fun _ y => (y, ()), fun _ y => ((), ((), ((), ((), ((), ())))))⟩
def an19 : Nat → Ann := mkA []
theorem ev19 : ∀ x : g19.ps.den, evalFn (c19 FUEL) an19 Try.f19 (codeOf Try.f19) g19 x (fun p => p.1.1) = g19.m x := by
  intro x
  obtain ⟨x0, x1, x2, x3, x4, xu⟩ := x
  show _ = _
  kernel_rfl
theorem meets19 : Meets Try.prog 19 g19 :=
  meets_of (C := c19 FUEL) (ann := an19) (mkC_ok (gs := [(30, g30)]) (is := []) (mt := mtL) tysOK elemOK ⟨meets30, trivial⟩ trivial mtOK FUEL) mixed Try.func19 (by kernel_rfl) (by kernel_rfl) (by kernel_rfl) (of_decide_eq_true (by kernel_rfl)) (fun p => p.1.1) (fun _ _ => ⟨rfl, rfl⟩) ev19
def c21 (N : Nat) : Cx := mkC tyL [(45, g45), (46, g46)] [] mtL N
def g21 : Sig := ⟨(.cons (.pure (.arr 128 (.int .u64))) .nl), (.cons (.pure (.arr 128 (.int .u64))) (.cons (.pure (.int .i64)) .nl)), ((List Int) × Int), fun x => m_page_Compact x.1, fun _ y => (y.1, (y.2, ())), fun _ y => ((), ())⟩
def an21 : Nat → Ann := mkA []
theorem ev21 : ∀ x : g21.ps.den, evalFn (c21 FUEL) an21 Try.f21 (codeOf Try.f21) g21 x (fun p => (p.1.1, p.1.2.1)) = g21.m x := by
  intro x
  obtain ⟨x0, xu⟩ := x
  show _ = _
  kernel_rfl
theorem meets21 : Meets Try.prog 21 g21 :=
  meets_of (C := c21 FUEL) (ann := an21) (mkC_ok (gs := [(45, g45), (46, g46)]) (is := []) (mt := mtL) tysOK elemOK ⟨meets45, meets46, trivial⟩ trivial mtOK FUEL) mixed Try.func21 (by kernel_rfl) (by kernel_rfl) (by kernel_rfl) (of_decide_eq_true (by kernel_rfl)) (fun p => (p.1.1, p.1.2.1)) (fun _ _ => ⟨rfl, rfl⟩) ev21
def c25 (N : Nat) : Cx := mkC tyL [(48, g48)] [] mtL N
def g25 : Sig := ⟨(.cons (.pure (.int .i64)) (.cons (.pure .str) (.cons (.pure (.int .i64)) .nl))), (.cons (.pure .bool) .nl), Bool, fun x => m_ticketlinelaw16_number x.1 x.2.1 x.2.2.1, fun _ y => (y, ()), fun _ y => ((), ((), ((), ())))⟩
def an25 : Nat → Ann := mkA []
theorem ev25 : ∀ x : g25.ps.den, evalFn (c25 FUEL) an25 Try.f25 (codeOf Try.f25) g25 x (fun p => p.1.1) = g25.m x := by
  intro x
  obtain ⟨x0, x1, x2, xu⟩ := x
  show _ = _
  kernel_rfl
theorem meets25 : Meets Try.prog 25 g25 :=
  meets_of (C := c25 FUEL) (ann := an25) (mkC_ok (gs := [(48, g48)]) (is := []) (mt := mtL) tysOK elemOK ⟨meets48, trivial⟩ trivial mtOK FUEL) mixed Try.func25 (by kernel_rfl) (by kernel_rfl) (by kernel_rfl) (of_decide_eq_true (by kernel_rfl)) (fun p => p.1.1) (fun _ _ => ⟨rfl, rfl⟩) ev25
def c32 (N : Nat) : Cx := mkC tyL [(29, g29), (50, g50), (51, g51), (52, g52), (55, g55), (56, g56), (57, g57), (58, g58), (59, g59)] [] mtL N
def g32 : Sig := ⟨(.cons (.pure (.arr 128 (.int .u64))) (.cons (.pure .str) (.cons (.pure .str) .nl))), (.cons (.pure (.arr 128 (.int .u64))) (.cons (.pure (.int .i64)) .nl)), ((List Int) × Int), fun x => m_page_Put x.1 x.2.1 x.2.2.1, fun _ y => (y.1, (y.2, ())), fun _ y => ((), ((), ((), ())))⟩
def an32 : Nat → Ann := mkA []
theorem ev32 : ∀ x : g32.ps.den, evalFn (c32 FUEL) an32 Try.f32 (codeOf Try.f32) g32 x (fun p => (p.1.1, p.1.2.1)) = g32.m x := by
  intro x
  obtain ⟨x0, x1, x2, xu⟩ := x
  show _ = _
  kernel_rfl
theorem meets32 : Meets Try.prog 32 g32 :=
  meets_of (C := c32 FUEL) (ann := an32) (mkC_ok (gs := [(29, g29), (50, g50), (51, g51), (52, g52), (55, g55), (56, g56), (57, g57), (58, g58), (59, g59)]) (is := []) (mt := mtL) tysOK elemOK ⟨meets29, meets50, meets51, meets52, meets55, meets56, meets57, meets58, meets59, trivial⟩ trivial mtOK FUEL) mixed Try.func32 (by kernel_rfl) (by kernel_rfl) (by kernel_rfl) (of_decide_eq_true (by kernel_rfl)) (fun p => (p.1.1, p.1.2.1)) (fun _ _ => ⟨rfl, rfl⟩) ev32
def c74 (N : Nat) : Cx := mkC tyL [(59, g59)] [] mtL N
def g74 : Sig := ⟨(.cons (.ptr (.pure (.arr 128 (.int .u64)))) (.cons (.pure (.int .i64)) (.cons (.pure .str) .nl))), (.cons (.pure (.int .i64)) .nl), (Int × (List Int)), fun x => m_slot_setFence x.1 x.2.1 x.2.2.1, fun _ y => (y.1, ()), fun _ y => (y.2, ((), ((), ())))⟩
def an74 : Nat → Ann := mkA []
theorem ev74 : ∀ x : g74.ps.den, evalFn (c74 FUEL) an74 Try.f74 (codeOf Try.f74) g74 x (fun p => (p.1.1, p.2.1)) = g74.m x := by
  intro x
  obtain ⟨x0, x1, x2, xu⟩ := x
  show _ = _
  kernel_rfl
theorem meets74 : Meets Try.prog 74 g74 :=
  meets_of (C := c74 FUEL) (ann := an74) (mkC_ok (gs := [(59, g59)]) (is := []) (mt := mtL) tysOK elemOK ⟨meets59, trivial⟩ trivial mtOK FUEL) mixed Try.func74 (by kernel_rfl) (by kernel_rfl) (by kernel_rfl) (of_decide_eq_true (by kernel_rfl)) (fun p => (p.1.1, p.2.1)) (fun _ _ => ⟨rfl, rfl⟩) ev74
def c61 (N : Nat) : Cx := mkC tyL [(63, g63), (74, g74)] [] mtL N
def g61 : Sig := ⟨(.cons (.pure (.int .i64)) (.cons (.pure .str) (.cons (.pure .str) .nl))), (.cons (.pure (.arr 128 (.int .u64))) (.cons (.pure (.int .i64)) .nl)), ((List Int) × Int), fun x => m_slot_Make x.1 x.2.1 x.2.2.1, fun _ y => (y.1, (y.2, ())), fun _ y => ((), ((), ((), ())))⟩
def an61 : Nat → Ann := mkA []
theorem ev61 : ∀ x : g61.ps.den, evalFn (c61 FUEL) an61 Try.f61 (codeOf Try.f61) g61 x (fun p => (p.1.1, p.1.2.1)) = g61.m x := by
  intro x
  obtain ⟨x0, x1, x2, xu⟩ := x
  show _ = _
  kernel_rfl
theorem meets61 : Meets Try.prog 61 g61 :=
  meets_of (C := c61 FUEL) (ann := an61) (mkC_ok (gs := [(63, g63), (74, g74)]) (is := []) (mt := mtL) tysOK elemOK ⟨meets63, meets74, trivial⟩ trivial mtOK FUEL) mixed Try.func61 (by kernel_rfl) (by kernel_rfl) (by kernel_rfl) (of_decide_eq_true (by kernel_rfl)) (fun p => (p.1.1, p.1.2.1)) (fun _ _ => ⟨rfl, rfl⟩) ev61
def c37 (N : Nat) : Cx := mkC tyL [(46, g46), (57, g57), (61, g61), (62, g62), (63, g63)] [] mtL N
def g37 : Sig := ⟨(.cons (.pure (.int .i64)) (.cons (.pure .str) (.cons (.pure .str) (.cons (.pure (.int .i64)) (.cons (.pure (.sl (.pair .str (.pair .str .nl)))) .nl))))), (.cons (.pure (.arr 128 (.int .u64))) (.cons (.pure (.int .i64)) .nl)), ((List Int) × Int), fun x => m_page_Of x.1 x.2.1 x.2.2.1 x.2.2.2.1 x.2.2.2.2.1, fun _ y => (y.1, (y.2, ())), fun _ y => ((), ((), ((), ((), ((), ())))))⟩
def an37 : Nat → Ann := mkA [(8, ⟨[0, 3, 4, 10, 12, 14, 36, 37, 38], [], [10, 12], false⟩)]
noncomputable def k37 (N : Nat) : Ex → St → Option ((List Int) × Int) := finK (c37 N) Try.f37 g37 (.cons .top (.cons .top (.cons .top (.cons .top (.cons .top .nl))))) (fun p => (p.1.1, p.1.2.1))
def a37 : Nat → Ann := annP [] an37
def h37_0 (u0_0 : Int) (u0_1 : Int) (u0_2 : (List (ByteArray × (ByteArray × Unit)))) (u0_3 : Int) (u0_4 : (List (ByteArray × (ByteArray × Unit)))) (u0_5 : Int) (u0_6 : Int) (u0_7 : (List Int)) (u0_8 : (List Int)) : St := ⟨87, [(0, (.int .i64 u0_0)), (3, (.int .i64 u0_1)), (4, (.lst (.pair .str (.pair .str .nl)) u0_2)), (10, (.ref 10 [])), (12, (.ref 12 [])), (14, (.int .i64 u0_3)), (36, (.lst (.pair .str (.pair .str .nl)) u0_4)), (37, (.int .i64 u0_5)), (38, (.int .i64 u0_6))], [(10, (.arr (.int .u64) 128 u0_7)), (12, (.arr (.int .u64) 128 u0_8))]⟩
theorem t37_0 : ∀ (N : Nat) (n : Nat) (u0_0 : Int) (u0_1 : Int) (u0_2 : (List (ByteArray × (ByteArray × Unit)))) (u0_3 : Int) (u0_4 : (List (ByteArray × (ByteArray × Unit)))) (u0_5 : Int) (u0_6 : Int) (u0_7 : (List Int)) (u0_8 : (List Int)), loopAt (c37 N) a37 [1, 1, 1, 1, 1, 0, 1, 0] [] (codeOf Try.f37) (k37 N) n (h37_0 u0_0 u0_1 u0_2 u0_3 u0_4 u0_5 u0_6 u0_7 u0_8) = m_page_Of_l0 N n u0_0 u0_1 u0_2 u0_3 u0_4 u0_5 u0_6 u0_7 u0_8 := by
  intro N n
  induction n with
  | zero => intro u0_0 u0_1 u0_2 u0_3 u0_4 u0_5 u0_6 u0_7 u0_8; kernel_rfl
  | succ n ih =>
    intro u0_0 u0_1 u0_2 u0_3 u0_4 u0_5 u0_6 u0_7 u0_8
    have e : loopAt (c37 N) a37 [1, 1, 1, 1, 1, 0, 1, 0] [] (codeOf Try.f37) (k37 N) (n + 1) (h37_0 u0_0 u0_1 u0_2 u0_3 u0_4 u0_5 u0_6 u0_7 u0_8) = m_page_Of_l0_b (fun w0 w1 w2 w3 w4 w5 w6 w7 w8 => loopAt (c37 N) a37 [1, 1, 1, 1, 1, 0, 1, 0] [] (codeOf Try.f37) (k37 N) n (h37_0 w0 w1 w2 w3 w4 w5 w6 w7 w8)) u0_0 u0_1 u0_2 u0_3 u0_4 u0_5 u0_6 u0_7 u0_8 := by kernel_rfl
    refine e.trans ?_
    have es : (fun w0 w1 w2 w3 w4 w5 w6 w7 w8 => loopAt (c37 N) a37 [1, 1, 1, 1, 1, 0, 1, 0] [] (codeOf Try.f37) (k37 N) n (h37_0 w0 w1 w2 w3 w4 w5 w6 w7 w8)) = m_page_Of_l0 N n := by
      funext w0 w1 w2 w3 w4 w5 w6 w7 w8; exact ih w0 w1 w2 w3 w4 w5 w6 w7 w8
    rw [es]
    rw [m_page_Of_l0]
theorem ew37 : ∀ (N : Nat) (x : g37.ps.den), evalFn (c37 N) an37 Try.f37 (codeOf Try.f37) g37 x (fun p => (p.1.1, p.1.2.1)) = m_page_Of_a (m_page_Of_l0 N N) x.1 x.2.1 x.2.2.1 x.2.2.2.1 x.2.2.2.2.1 := by
  intro N
  intro x
  obtain ⟨x0, x1, x2, x3, x4, xu⟩ := x
  have e : evalFn (c37 N) an37 Try.f37 (codeOf Try.f37) g37 (x0, x1, x2, x3, x4, xu) (fun p => (p.1.1, p.1.2.1)) = m_page_Of_a (fun w0 w1 w2 w3 w4 w5 w6 w7 w8 => loopAt (c37 N) a37 [1, 1, 1, 1, 1, 0, 1, 0] [] (codeOf Try.f37) (k37 N) N (h37_0 w0 w1 w2 w3 w4 w5 w6 w7 w8)) x0 x1 x2 x3 x4 := by kernel_rfl
  refine e.trans ?_
  have e0 : (fun w0 w1 w2 w3 w4 w5 w6 w7 w8 => loopAt (c37 N) a37 [1, 1, 1, 1, 1, 0, 1, 0] [] (codeOf Try.f37) (k37 N) N (h37_0 w0 w1 w2 w3 w4 w5 w6 w7 w8)) = m_page_Of_l0 N N := by
    funext w0 w1 w2 w3 w4 w5 w6 w7 w8; exact t37_0 N N w0 w1 w2 w3 w4 w5 w6 w7 w8
  rw [e0]
theorem ev37 : ∀ x : g37.ps.den, evalFn (c37 FUEL) an37 Try.f37 (codeOf Try.f37) g37 x (fun p => (p.1.1, p.1.2.1)) = g37.m x := fun x => ew37 FUEL x
theorem meets37 : Meets Try.prog 37 g37 :=
  meets_of (C := c37 FUEL) (ann := an37) (mkC_ok (gs := [(46, g46), (57, g57), (61, g61), (62, g62), (63, g63)]) (is := []) (mt := mtL) tysOK elemOK ⟨meets46, meets57, meets61, meets62, meets63, trivial⟩ trivial mtOK FUEL) mixed Try.func37 (by kernel_rfl) (by kernel_rfl) (by kernel_rfl) (of_decide_eq_true (by kernel_rfl)) (fun p => (p.1.1, p.1.2.1)) (fun _ _ => ⟨rfl, rfl⟩) ev37
def c10 (N : Nat) : Cx := mkC tyL [(14, g14), (16, g16), (19, g19), (21, g21), (25, g25), (29, g29), (30, g30), (32, g32), (37, g37)] [] mtL N
def g10 : Sig := ⟨.nl, (.cons (.pure .bool) .nl), Bool, fun x => m_ticketlinelaw16_known, fun _ y => (y, ()), fun _ y => ()⟩
def an10 : Nat → Ann := mkA []
theorem ev10 : ∀ x : g10.ps.den, evalFn (c10 FUEL) an10 Try.f10 (codeOf Try.f10) g10 x (fun p => p.1.1) = g10.m x := by
  intro x
  show _ = _
  kernel_rfl
theorem meets10 : Meets Try.prog 10 g10 :=
  meets_of (C := c10 FUEL) (ann := an10) (mkC_ok (gs := [(14, g14), (16, g16), (19, g19), (21, g21), (25, g25), (29, g29), (30, g30), (32, g32), (37, g37)]) (is := []) (mt := mtL) tysOK elemOK ⟨meets14, meets16, meets19, meets21, meets25, meets29, meets30, meets32, meets37, trivial⟩ trivial mtOK FUEL) mixed Try.func10 (by kernel_rfl) (by kernel_rfl) (by kernel_rfl) (of_decide_eq_true (by kernel_rfl)) (fun p => p.1.1) (fun _ _ => ⟨rfl, rfl⟩) ev10
def c60 (N : Nat) : Cx := mkC tyL [(39, g39)] [] mtL N
def g60 : Sig := ⟨(.cons (.pure (.arr 128 (.int .u64))) (.cons (.pure (.int .i64)) .nl)), (.cons (.pure .str) (.cons (.pure .bool) .nl)), (ByteArray × Bool), fun x => m_ticketlineref14_fence x.1 x.2.1, fun _ y => (y.1, (y.2, ())), fun _ y => ((), ((), ()))⟩
def an60 : Nat → Ann := mkA []
theorem ev60 : ∀ x : g60.ps.den, evalFn (c60 FUEL) an60 Try.f60 (codeOf Try.f60) g60 x (fun p => (p.1.1, p.1.2.1)) = g60.m x := by
  intro x
  obtain ⟨x0, x1, xu⟩ := x
  show _ = _
  kernel_rfl
theorem meets60 : Meets Try.prog 60 g60 :=
  meets_of (C := c60 FUEL) (ann := an60) (mkC_ok (gs := [(39, g39)]) (is := []) (mt := mtL) tysOK elemOK ⟨meets39, trivial⟩ trivial mtOK FUEL) mixed Try.func60 (by kernel_rfl) (by kernel_rfl) (by kernel_rfl) (of_decide_eq_true (by kernel_rfl)) (fun p => (p.1.1, p.1.2.1)) (fun _ _ => ⟨rfl, rfl⟩) ev60
def c34 (N : Nat) : Cx := mkC tyL [(28, g28), (38, g38), (39, g39), (40, g40), (60, g60)] [] mtL N
def g34 : Sig := ⟨(.cons (.pure (.arr 128 (.int .u64))) .nl), (.cons (.pure .bool) .nl), Bool, fun x => m_ticketlineref14_Valid x.1, fun _ y => (y, ()), fun _ y => ((), ())⟩
def an34 : Nat → Ann := mkA [(6, ⟨[1, 7], [], [1], false⟩), (17, ⟨[1, 7, 8, 15], [], [1, 8], false⟩)]
noncomputable def k34 (N : Nat) : Ex → St → Option Bool := finK (c34 N) Try.f34 g34 (.cons .top .nl) (fun p => p.1.1)
def a34 : Nat → Ann := annP [] an34
def h34_1 (u1_0 : Int) (u1_1 : Int) (u1_2 : (List Int)) (u1_3 : Int) (u1_4 : Int) (u1_5 : Int) : St := ⟨205, [(1, (.ref 1 [])), (7, (.int .i64 u1_0)), (8, (.ref 8 [])), (15, (.int .i64 u1_1))], [(1, (.arr (.int .u64) 128 u1_2)), (8, (.cons (.int .i64 u1_3) (.cons (.int .i64 u1_4) (.cons (.int .i64 u1_5) .nl))))]⟩
def h34_0 (u0_0 : Int) (u0_1 : (List Int)) : St := ⟨205, [(1, (.ref 1 [])), (7, (.int .i64 u0_0))], [(1, (.arr (.int .u64) 128 u0_1))]⟩
theorem t34_1 : ∀ (N : Nat) (m0 : Nat) (n : Nat) (u1_0 : Int) (u1_1 : Int) (u1_2 : (List Int)) (u1_3 : Int) (u1_4 : Int) (u1_5 : Int), loopAt (c34 N) a34 [1, 1, 1, 1, 0, 1, 0, 0, 1, 0, 0, 1, 1, 1, 1, 1, 1, 1, 0] [m0] (codeOf Try.f34) (k34 N) n (h34_1 u1_0 u1_1 u1_2 u1_3 u1_4 u1_5) = m_ticketlineref14_Valid_l1 N (fun w0 w1 => loopAt (c34 N) a34 [1, 1, 1, 1, 0, 1, 0] [] (codeOf Try.f34) (k34 N) m0 (h34_0 w0 w1)) n u1_0 u1_1 u1_2 u1_3 u1_4 u1_5 := by
  intro N m0 n
  induction n with
  | zero => intro u1_0 u1_1 u1_2 u1_3 u1_4 u1_5; kernel_rfl
  | succ n ih =>
    intro u1_0 u1_1 u1_2 u1_3 u1_4 u1_5
    have e : loopAt (c34 N) a34 [1, 1, 1, 1, 0, 1, 0, 0, 1, 0, 0, 1, 1, 1, 1, 1, 1, 1, 0] [m0] (codeOf Try.f34) (k34 N) (n + 1) (h34_1 u1_0 u1_1 u1_2 u1_3 u1_4 u1_5) = m_ticketlineref14_Valid_l1_b (fun w0 w1 => loopAt (c34 N) a34 [1, 1, 1, 1, 0, 1, 0] [] (codeOf Try.f34) (k34 N) m0 (h34_0 w0 w1)) (fun w0 w1 w2 w3 w4 w5 => loopAt (c34 N) a34 [1, 1, 1, 1, 0, 1, 0, 0, 1, 0, 0, 1, 1, 1, 1, 1, 1, 1, 0] [m0] (codeOf Try.f34) (k34 N) n (h34_1 w0 w1 w2 w3 w4 w5)) u1_0 u1_1 u1_2 u1_3 u1_4 u1_5 := by kernel_rfl
    refine e.trans ?_
    have es : (fun w0 w1 w2 w3 w4 w5 => loopAt (c34 N) a34 [1, 1, 1, 1, 0, 1, 0, 0, 1, 0, 0, 1, 1, 1, 1, 1, 1, 1, 0] [m0] (codeOf Try.f34) (k34 N) n (h34_1 w0 w1 w2 w3 w4 w5)) = m_ticketlineref14_Valid_l1 N (fun w0 w1 => loopAt (c34 N) a34 [1, 1, 1, 1, 0, 1, 0] [] (codeOf Try.f34) (k34 N) m0 (h34_0 w0 w1)) n := by
      funext w0 w1 w2 w3 w4 w5; exact ih w0 w1 w2 w3 w4 w5
    rw [es]
    rw [m_ticketlineref14_Valid_l1]
theorem t34_0 : ∀ (N : Nat) (n : Nat) (u0_0 : Int) (u0_1 : (List Int)), loopAt (c34 N) a34 [1, 1, 1, 1, 0, 1, 0] [] (codeOf Try.f34) (k34 N) n (h34_0 u0_0 u0_1) = m_ticketlineref14_Valid_l0 N n u0_0 u0_1 := by
  intro N n
  induction n with
  | zero => intro u0_0 u0_1; kernel_rfl
  | succ n ih =>
    intro u0_0 u0_1
    have e : loopAt (c34 N) a34 [1, 1, 1, 1, 0, 1, 0] [] (codeOf Try.f34) (k34 N) (n + 1) (h34_0 u0_0 u0_1) = m_ticketlineref14_Valid_l0_b (fun w0 w1 => loopAt (c34 N) a34 [1, 1, 1, 1, 0, 1, 0] [] (codeOf Try.f34) (k34 N) n (h34_0 w0 w1)) (fun w0 w1 w2 w3 w4 w5 => loopAt (c34 N) a34 [1, 1, 1, 1, 0, 1, 0, 0, 1, 0, 0, 1, 1, 1, 1, 1, 1, 1, 0] [n] (codeOf Try.f34) (k34 N) N (h34_1 w0 w1 w2 w3 w4 w5)) u0_0 u0_1 := by kernel_rfl
    refine e.trans ?_
    have e1 : (fun w0 w1 w2 w3 w4 w5 => loopAt (c34 N) a34 [1, 1, 1, 1, 0, 1, 0, 0, 1, 0, 0, 1, 1, 1, 1, 1, 1, 1, 0] [n] (codeOf Try.f34) (k34 N) N (h34_1 w0 w1 w2 w3 w4 w5)) = m_ticketlineref14_Valid_l1 N (fun w0 w1 => loopAt (c34 N) a34 [1, 1, 1, 1, 0, 1, 0] [] (codeOf Try.f34) (k34 N) n (h34_0 w0 w1)) N := by
      funext w0 w1 w2 w3 w4 w5; exact t34_1 N n N w0 w1 w2 w3 w4 w5
    rw [e1]
    have es : (fun w0 w1 => loopAt (c34 N) a34 [1, 1, 1, 1, 0, 1, 0] [] (codeOf Try.f34) (k34 N) n (h34_0 w0 w1)) = m_ticketlineref14_Valid_l0 N n := by
      funext w0 w1; exact ih w0 w1
    rw [es]
    rw [m_ticketlineref14_Valid_l0]
theorem ew34 : ∀ (N : Nat) (x : g34.ps.den), evalFn (c34 N) an34 Try.f34 (codeOf Try.f34) g34 x (fun p => p.1.1) = m_ticketlineref14_Valid_a (m_ticketlineref14_Valid_l0 N N) x.1 := by
  intro N
  intro x
  obtain ⟨x0, xu⟩ := x
  have e : evalFn (c34 N) an34 Try.f34 (codeOf Try.f34) g34 (x0, xu) (fun p => p.1.1) = m_ticketlineref14_Valid_a (fun w0 w1 => loopAt (c34 N) a34 [1, 1, 1, 1, 0, 1, 0] [] (codeOf Try.f34) (k34 N) N (h34_0 w0 w1)) x0 := by kernel_rfl
  refine e.trans ?_
  have e0 : (fun w0 w1 => loopAt (c34 N) a34 [1, 1, 1, 1, 0, 1, 0] [] (codeOf Try.f34) (k34 N) N (h34_0 w0 w1)) = m_ticketlineref14_Valid_l0 N N := by
    funext w0 w1; exact t34_0 N N w0 w1
  rw [e0]
theorem ev34 : ∀ x : g34.ps.den, evalFn (c34 FUEL) an34 Try.f34 (codeOf Try.f34) g34 x (fun p => p.1.1) = g34.m x := fun x => ew34 FUEL x
theorem meets34 : Meets Try.prog 34 g34 :=
  meets_of (C := c34 FUEL) (ann := an34) (mkC_ok (gs := [(28, g28), (38, g38), (39, g39), (40, g40), (60, g60)]) (is := []) (mt := mtL) tysOK elemOK ⟨meets28, meets38, meets39, meets40, meets60, trivial⟩ trivial mtOK FUEL) mixed Try.func34 (by kernel_rfl) (by kernel_rfl) (by kernel_rfl) (of_decide_eq_true (by kernel_rfl)) (fun p => p.1.1) (fun _ _ => ⟨rfl, rfl⟩) ev34
def c13 (N : Nat) : Cx := mkC tyL [(14, g14), (34, g34)] [] mtL N
def g13 : Sig := ⟨(.cons (.pure (.arr 128 (.int .u64))) .nl), (.cons (.pure (.int .i64)) .nl), Int, fun x => m_ticketlineref15_Bad x.1, fun _ y => (y, ()), fun _ y => ((), ())⟩
def an13 : Nat → Ann := mkA [(5, ⟨[3, 4], [], [200288], false⟩)]
noncomputable def k13 (N : Nat) : Ex → St → Option Int := finK (c13 N) Try.f13 g13 (.cons .top .nl) (fun p => p.1.1)
def a13 : Nat → Ann := annP [] an13
def h13_0 (u0_0 : Int) (u0_1 : (List (ByteArray × (ByteArray × Unit)))) : St := ⟨28, [(3, (.full 200288)), (4, (.int .i64 u0_0))], [(200288, (.bk (.pair .str (.pair .str .nl)) u0_1))]⟩
theorem t13_0 : ∀ (N : Nat) (n : Nat) (u0_0 : Int) (u0_1 : (List (ByteArray × (ByteArray × Unit)))), loopAt (c13 N) a13 [1, 1, 1, 0, 1, 0] [] (codeOf Try.f13) (k13 N) n (h13_0 u0_0 u0_1) = m_ticketlineref15_Bad_l0 N n u0_0 u0_1 := by
  intro N n
  induction n with
  | zero => intro u0_0 u0_1; kernel_rfl
  | succ n ih =>
    intro u0_0 u0_1
    have e : loopAt (c13 N) a13 [1, 1, 1, 0, 1, 0] [] (codeOf Try.f13) (k13 N) (n + 1) (h13_0 u0_0 u0_1) = m_ticketlineref15_Bad_l0_b (fun w0 w1 => loopAt (c13 N) a13 [1, 1, 1, 0, 1, 0] [] (codeOf Try.f13) (k13 N) n (h13_0 w0 w1)) u0_0 u0_1 := by kernel_rfl
    refine e.trans ?_
    have es : (fun w0 w1 => loopAt (c13 N) a13 [1, 1, 1, 0, 1, 0] [] (codeOf Try.f13) (k13 N) n (h13_0 w0 w1)) = m_ticketlineref15_Bad_l0 N n := by
      funext w0 w1; exact ih w0 w1
    rw [es]
    rw [m_ticketlineref15_Bad_l0]
theorem ew13 : ∀ (N : Nat) (x : g13.ps.den), evalFn (c13 N) an13 Try.f13 (codeOf Try.f13) g13 x (fun p => p.1.1) = m_ticketlineref15_Bad_a (m_ticketlineref15_Bad_l0 N N) x.1 := by
  intro N
  intro x
  obtain ⟨x0, xu⟩ := x
  have e : evalFn (c13 N) an13 Try.f13 (codeOf Try.f13) g13 (x0, xu) (fun p => p.1.1) = m_ticketlineref15_Bad_a (fun w0 w1 => loopAt (c13 N) a13 [1, 1, 1, 0, 1, 0] [] (codeOf Try.f13) (k13 N) N (h13_0 w0 w1)) x0 := by kernel_rfl
  refine e.trans ?_
  have e0 : (fun w0 w1 => loopAt (c13 N) a13 [1, 1, 1, 0, 1, 0] [] (codeOf Try.f13) (k13 N) N (h13_0 w0 w1)) = m_ticketlineref15_Bad_l0 N N := by
    funext w0 w1; exact t13_0 N N w0 w1
  rw [e0]
theorem ev13 : ∀ x : g13.ps.den, evalFn (c13 FUEL) an13 Try.f13 (codeOf Try.f13) g13 x (fun p => p.1.1) = g13.m x := fun x => ew13 FUEL x
theorem meets13 : Meets Try.prog 13 g13 :=
  meets_of (C := c13 FUEL) (ann := an13) (mkC_ok (gs := [(14, g14), (34, g34)]) (is := []) (mt := mtL) tysOK elemOK ⟨meets14, meets34, trivial⟩ trivial mtOK FUEL) mixed Try.func13 (by kernel_rfl) (by kernel_rfl) (by kernel_rfl) (of_decide_eq_true (by kernel_rfl)) (fun p => p.1.1) (fun _ _ => ⟨rfl, rfl⟩) ev13
def c31 (N : Nat) : Cx := mkC tyL [] [] mtL N
def g31 : Sig := ⟨(.cons (.pure (.sl (.pair .str (.pair .str .nl)))) (.cons (.pure .str) .nl)), (.cons (.pure (.int .i64)) (.cons (.pure .bool) .nl)), (Int × Bool), fun x => m_ticketlineref15_Find x.1 x.2.1, fun _ y => (y.1, (y.2, ())), fun _ y => ((), ((), ()))⟩
def an31 : Nat → Ann := mkA [(2, ⟨[0, 1, 6], [], [], false⟩)]
noncomputable def k31 (N : Nat) : Ex → St → Option (Int × Bool) := finK (c31 N) Try.f31 g31 (.cons .top (.cons .top .nl)) (fun p => (p.1.1, p.1.2.1))
def a31 : Nat → Ann := annP [] an31
def h31_0 (u0_0 : (List (ByteArray × (ByteArray × Unit)))) (u0_1 : ByteArray) (u0_2 : Int) : St := ⟨36, [(0, (.lst (.pair .str (.pair .str .nl)) u0_0)), (1, (.str u0_1)), (6, (.int .i64 u0_2))], []⟩
theorem t31_0 : ∀ (N : Nat) (n : Nat) (u0_0 : (List (ByteArray × (ByteArray × Unit)))) (u0_1 : ByteArray) (u0_2 : Int), loopAt (c31 N) a31 [1, 1, 0, 0] [] (codeOf Try.f31) (k31 N) n (h31_0 u0_0 u0_1 u0_2) = m_ticketlineref15_Find_l0 N n u0_0 u0_1 u0_2 := by
  intro N n
  induction n with
  | zero => intro u0_0 u0_1 u0_2; kernel_rfl
  | succ n ih =>
    intro u0_0 u0_1 u0_2
    have e : loopAt (c31 N) a31 [1, 1, 0, 0] [] (codeOf Try.f31) (k31 N) (n + 1) (h31_0 u0_0 u0_1 u0_2) = m_ticketlineref15_Find_l0_b (fun w0 w1 w2 => loopAt (c31 N) a31 [1, 1, 0, 0] [] (codeOf Try.f31) (k31 N) n (h31_0 w0 w1 w2)) u0_0 u0_1 u0_2 := by kernel_rfl
    refine e.trans ?_
    have es : (fun w0 w1 w2 => loopAt (c31 N) a31 [1, 1, 0, 0] [] (codeOf Try.f31) (k31 N) n (h31_0 w0 w1 w2)) = m_ticketlineref15_Find_l0 N n := by
      funext w0 w1 w2; exact ih w0 w1 w2
    rw [es]
    rw [m_ticketlineref15_Find_l0]
theorem ew31 : ∀ (N : Nat) (x : g31.ps.den), evalFn (c31 N) an31 Try.f31 (codeOf Try.f31) g31 x (fun p => (p.1.1, p.1.2.1)) = m_ticketlineref15_Find_a (m_ticketlineref15_Find_l0 N N) x.1 x.2.1 := by
  intro N
  intro x
  obtain ⟨x0, x1, xu⟩ := x
  have e : evalFn (c31 N) an31 Try.f31 (codeOf Try.f31) g31 (x0, x1, xu) (fun p => (p.1.1, p.1.2.1)) = m_ticketlineref15_Find_a (fun w0 w1 w2 => loopAt (c31 N) a31 [1, 1, 0, 0] [] (codeOf Try.f31) (k31 N) N (h31_0 w0 w1 w2)) x0 x1 := by kernel_rfl
  refine e.trans ?_
  have e0 : (fun w0 w1 w2 => loopAt (c31 N) a31 [1, 1, 0, 0] [] (codeOf Try.f31) (k31 N) N (h31_0 w0 w1 w2)) = m_ticketlineref15_Find_l0 N N := by
    funext w0 w1 w2; exact t31_0 N N w0 w1 w2
  rw [e0]
theorem ev31 : ∀ x : g31.ps.den, evalFn (c31 FUEL) an31 Try.f31 (codeOf Try.f31) g31 x (fun p => (p.1.1, p.1.2.1)) = g31.m x := fun x => ew31 FUEL x
theorem meets31 : Meets Try.prog 31 g31 :=
  meets_of (C := c31 FUEL) (ann := an31) (mkC_ok (gs := []) (is := []) (mt := mtL) tysOK elemOK trivial trivial mtOK FUEL) mixed Try.func31 (by kernel_rfl) (by kernel_rfl) (by kernel_rfl) (of_decide_eq_true (by kernel_rfl)) (fun p => (p.1.1, p.1.2.1)) (fun _ _ => ⟨rfl, rfl⟩) ev31
def c33 (N : Nat) : Cx := mkC tyL [(35, g35)] [] mtL N
def g33 : Sig := ⟨(.cons (.pure (.sl (.pair .str (.pair .str .nl)))) .nl), (.cons (.pure (.int .i64)) .nl), Int, fun x => m_ticketlineref14_Sum x.1, fun _ y => (y, ()), fun _ y => ((), ())⟩
def an33 : Nat → Ann := mkA [(3, ⟨[0, 3, 4], [], [], false⟩)]
noncomputable def k33 (N : Nat) : Ex → St → Option Int := finK (c33 N) Try.f33 g33 (.cons .top .nl) (fun p => p.1.1)
def a33 : Nat → Ann := annP [] an33
def h33_0 (u0_0 : (List (ByteArray × (ByteArray × Unit)))) (u0_1 : Int) (u0_2 : Int) : St := ⟨19, [(0, (.lst (.pair .str (.pair .str .nl)) u0_0)), (3, (.int .i64 u0_1)), (4, (.int .i64 u0_2))], []⟩
theorem t33_0 : ∀ (N : Nat) (n : Nat) (u0_0 : (List (ByteArray × (ByteArray × Unit)))) (u0_1 : Int) (u0_2 : Int), loopAt (c33 N) a33 [1, 1, 0, 1, 0] [] (codeOf Try.f33) (k33 N) n (h33_0 u0_0 u0_1 u0_2) = m_ticketlineref14_Sum_l0 N n u0_0 u0_1 u0_2 := by
  intro N n
  induction n with
  | zero => intro u0_0 u0_1 u0_2; kernel_rfl
  | succ n ih =>
    intro u0_0 u0_1 u0_2
    have e : loopAt (c33 N) a33 [1, 1, 0, 1, 0] [] (codeOf Try.f33) (k33 N) (n + 1) (h33_0 u0_0 u0_1 u0_2) = m_ticketlineref14_Sum_l0_b (fun w0 w1 w2 => loopAt (c33 N) a33 [1, 1, 0, 1, 0] [] (codeOf Try.f33) (k33 N) n (h33_0 w0 w1 w2)) u0_0 u0_1 u0_2 := by kernel_rfl
    refine e.trans ?_
    have es : (fun w0 w1 w2 => loopAt (c33 N) a33 [1, 1, 0, 1, 0] [] (codeOf Try.f33) (k33 N) n (h33_0 w0 w1 w2)) = m_ticketlineref14_Sum_l0 N n := by
      funext w0 w1 w2; exact ih w0 w1 w2
    rw [es]
    rw [m_ticketlineref14_Sum_l0]
theorem ew33 : ∀ (N : Nat) (x : g33.ps.den), evalFn (c33 N) an33 Try.f33 (codeOf Try.f33) g33 x (fun p => p.1.1) = m_ticketlineref14_Sum_a (m_ticketlineref14_Sum_l0 N N) x.1 := by
  intro N
  intro x
  obtain ⟨x0, xu⟩ := x
  have e : evalFn (c33 N) an33 Try.f33 (codeOf Try.f33) g33 (x0, xu) (fun p => p.1.1) = m_ticketlineref14_Sum_a (fun w0 w1 w2 => loopAt (c33 N) a33 [1, 1, 0, 1, 0] [] (codeOf Try.f33) (k33 N) N (h33_0 w0 w1 w2)) x0 := by kernel_rfl
  refine e.trans ?_
  have e0 : (fun w0 w1 w2 => loopAt (c33 N) a33 [1, 1, 0, 1, 0] [] (codeOf Try.f33) (k33 N) N (h33_0 w0 w1 w2)) = m_ticketlineref14_Sum_l0 N N := by
    funext w0 w1 w2; exact t33_0 N N w0 w1 w2
  rw [e0]
theorem ev33 : ∀ x : g33.ps.den, evalFn (c33 FUEL) an33 Try.f33 (codeOf Try.f33) g33 x (fun p => p.1.1) = g33.m x := fun x => ew33 FUEL x
theorem meets33 : Meets Try.prog 33 g33 :=
  meets_of (C := c33 FUEL) (ann := an33) (mkC_ok (gs := [(35, g35)]) (is := []) (mt := mtL) tysOK elemOK ⟨meets35, trivial⟩ trivial mtOK FUEL) mixed Try.func33 (by kernel_rfl) (by kernel_rfl) (by kernel_rfl) (of_decide_eq_true (by kernel_rfl)) (fun p => p.1.1) (fun _ _ => ⟨rfl, rfl⟩) ev33
def c26 (N : Nat) : Cx := mkC tyL [] [] mtL N
def g26 : Sig := ⟨(.cons (.pure (.int .i64)) .nl), (.cons (.pure .str) .nl), ByteArray, fun x => m_ticketlineref16_Number x.1, fun _ y => (y, ()), fun _ y => ((), ())⟩
def an26 : Nat → Ann := mkA []
theorem ev26 : ∀ x : g26.ps.den, evalFn (c26 FUEL) an26 Try.f26 (codeOf Try.f26) g26 x (fun p => p.1.1) = g26.m x := by
  intro x
  obtain ⟨x0, xu⟩ := x
  show _ = _
  kernel_rfl
theorem meets26 : Meets Try.prog 26 g26 :=
  meets_of (C := c26 FUEL) (ann := an26) (mkC_ok (gs := []) (is := []) (mt := mtL) tysOK elemOK trivial trivial mtOK FUEL) mixed Try.func26 (by kernel_rfl) (by kernel_rfl) (by kernel_rfl) (of_decide_eq_true (by kernel_rfl)) (fun p => p.1.1) (fun _ _ => ⟨rfl, rfl⟩) ev26
def c41 (N : Nat) : Cx := mkC tyL [(26, g26)] [] mtL N
def g41 : Sig := ⟨(.cons (.pure .bool) (.cons (.pure (.int .i64)) (.cons (.pure (.pair .str (.pair .str .nl))) .nl))), (.cons (.pure (.int .i64)) .nl), Int, fun x => m_ticketlineref16_Allowed x.1 x.2.1 x.2.2.1, fun _ y => (y, ()), fun _ y => ((), ((), ((), ())))⟩
def an41 : Nat → Ann := mkA []
theorem ev41 : ∀ x : g41.ps.den, evalFn (c41 FUEL) an41 Try.f41 (codeOf Try.f41) g41 x (fun p => p.1.1) = g41.m x := by
  intro x
  obtain ⟨x0, x1, x2, xu⟩ := x
  show _ = _
  kernel_rfl
theorem meets41 : Meets Try.prog 41 g41 :=
  meets_of (C := c41 FUEL) (ann := an41) (mkC_ok (gs := [(26, g26)]) (is := []) (mt := mtL) tysOK elemOK ⟨meets26, trivial⟩ trivial mtOK FUEL) mixed Try.func41 (by kernel_rfl) (by kernel_rfl) (by kernel_rfl) (of_decide_eq_true (by kernel_rfl)) (fun p => p.1.1) (fun _ _ => ⟨rfl, rfl⟩) ev41
def c43 (N : Nat) : Cx := mkC tyL [] [] mtL N
def g43 : Sig := ⟨(.cons (.pure (.arr 128 (.int .u64))) (.cons (.pure (.int .i64)) .nl)), (.cons (.pure (.arr 128 (.int .u64))) .nl), (List Int), fun x => m_ticketlineref16_Take x.1 x.2.1, fun _ y => (y, ()), fun _ y => ((), ((), ()))⟩
def an43 : Nat → Ann := mkA [(3, ⟨[2, 4, 5, 6], [], [2, 4], false⟩)]
noncomputable def k43 (N : Nat) : Ex → St → Option (List Int) := finK (c43 N) Try.f43 g43 (.cons .top (.cons .top .nl)) (fun p => p.1.1)
def a43 : Nat → Ann := annP [] an43
def h43_0 (u0_0 : Int) (u0_1 : Int) (u0_2 : (List Int)) (u0_3 : (List Int)) : St := ⟨32, [(2, (.ref 2 [])), (4, (.ref 4 [])), (5, (.int .i64 u0_0)), (6, (.int .i64 u0_1))], [(2, (.arr (.int .u64) 128 u0_2)), (4, (.arr (.int .u64) 128 u0_3))]⟩
theorem t43_0 : ∀ (N : Nat) (n : Nat) (u0_0 : Int) (u0_1 : Int) (u0_2 : (List Int)) (u0_3 : (List Int)), loopAt (c43 N) a43 [1, 1, 0, 1, 0] [] (codeOf Try.f43) (k43 N) n (h43_0 u0_0 u0_1 u0_2 u0_3) = m_ticketlineref16_Take_l0 N n u0_0 u0_1 u0_2 u0_3 := by
  intro N n
  induction n with
  | zero => intro u0_0 u0_1 u0_2 u0_3; kernel_rfl
  | succ n ih =>
    intro u0_0 u0_1 u0_2 u0_3
    have e : loopAt (c43 N) a43 [1, 1, 0, 1, 0] [] (codeOf Try.f43) (k43 N) (n + 1) (h43_0 u0_0 u0_1 u0_2 u0_3) = m_ticketlineref16_Take_l0_b (fun w0 w1 w2 w3 => loopAt (c43 N) a43 [1, 1, 0, 1, 0] [] (codeOf Try.f43) (k43 N) n (h43_0 w0 w1 w2 w3)) u0_0 u0_1 u0_2 u0_3 := by kernel_rfl
    refine e.trans ?_
    have es : (fun w0 w1 w2 w3 => loopAt (c43 N) a43 [1, 1, 0, 1, 0] [] (codeOf Try.f43) (k43 N) n (h43_0 w0 w1 w2 w3)) = m_ticketlineref16_Take_l0 N n := by
      funext w0 w1 w2 w3; exact ih w0 w1 w2 w3
    rw [es]
    rw [m_ticketlineref16_Take_l0]
theorem ew43 : ∀ (N : Nat) (x : g43.ps.den), evalFn (c43 N) an43 Try.f43 (codeOf Try.f43) g43 x (fun p => p.1.1) = m_ticketlineref16_Take_a (m_ticketlineref16_Take_l0 N N) x.1 x.2.1 := by
  intro N
  intro x
  obtain ⟨x0, x1, xu⟩ := x
  have e : evalFn (c43 N) an43 Try.f43 (codeOf Try.f43) g43 (x0, x1, xu) (fun p => p.1.1) = m_ticketlineref16_Take_a (fun w0 w1 w2 w3 => loopAt (c43 N) a43 [1, 1, 0, 1, 0] [] (codeOf Try.f43) (k43 N) N (h43_0 w0 w1 w2 w3)) x0 x1 := by kernel_rfl
  refine e.trans ?_
  have e0 : (fun w0 w1 w2 w3 => loopAt (c43 N) a43 [1, 1, 0, 1, 0] [] (codeOf Try.f43) (k43 N) N (h43_0 w0 w1 w2 w3)) = m_ticketlineref16_Take_l0 N N := by
    funext w0 w1 w2 w3; exact t43_0 N N w0 w1 w2 w3
  rw [e0]
theorem ev43 : ∀ x : g43.ps.den, evalFn (c43 FUEL) an43 Try.f43 (codeOf Try.f43) g43 x (fun p => p.1.1) = g43.m x := fun x => ew43 FUEL x
theorem meets43 : Meets Try.prog 43 g43 :=
  meets_of (C := c43 FUEL) (ann := an43) (mkC_ok (gs := []) (is := []) (mt := mtL) tysOK elemOK trivial trivial mtOK FUEL) mixed Try.func43 (by kernel_rfl) (by kernel_rfl) (by kernel_rfl) (of_decide_eq_true (by kernel_rfl)) (fun p => p.1.1) (fun _ _ => ⟨rfl, rfl⟩) ev43
def c20 (N : Nat) : Cx := mkC tyL [(14, g14), (36, g36)] [] mtL N
def g20 : Sig := ⟨(.cons (.pure (.arr 128 (.int .u64))) .nl), (.cons (.pure (.arr 128 (.int .u64))) .nl), (List Int), fun x => m_ticketlineref16_Compact x.1, fun _ y => (y, ()), fun _ y => ((), ())⟩
def an20 : Nat → Ann := mkA [(5, ⟨[2, 3, 4, 5], [], [2, 200256, 4], false⟩), (9, ⟨[2, 3, 4, 6], [], [2, 200256, 4], false⟩)]
noncomputable def k20 (N : Nat) : Ex → St → Option (List Int) := finK (c20 N) Try.f20 g20 (.cons .top .nl) (fun p => p.1.1)
def a20 : Nat → Ann := annP [] an20
def h20_1 (u1_0 : Int) (u1_1 : (List Int)) (u1_2 : (List (ByteArray × (ByteArray × Unit)))) (u1_3 : (List Int)) : St := ⟨31, [(2, (.ref 2 [])), (3, (.full 200256)), (4, (.ref 4 [])), (6, (.int .i64 u1_0))], [(2, (.arr (.int .u64) 128 u1_1)), (200256, (.bk (.pair .str (.pair .str .nl)) u1_2)), (4, (.arr (.int .u64) 128 u1_3))]⟩
def h20_0 (u0_0 : Int) (u0_1 : (List Int)) (u0_2 : (List (ByteArray × (ByteArray × Unit)))) (u0_3 : (List Int)) : St := ⟨31, [(2, (.ref 2 [])), (3, (.full 200256)), (4, (.ref 4 [])), (5, (.int .i64 u0_0))], [(2, (.arr (.int .u64) 128 u0_1)), (200256, (.bk (.pair .str (.pair .str .nl)) u0_2)), (4, (.arr (.int .u64) 128 u0_3))]⟩
theorem t20_1 : ∀ (N : Nat) (n : Nat) (u1_0 : Int) (u1_1 : (List Int)) (u1_2 : (List (ByteArray × (ByteArray × Unit)))) (u1_3 : (List Int)), loopAt (c20 N) a20 [1, 1, 1, 1, 1, 0, 1, 0] [] (codeOf Try.f20) (k20 N) n (h20_1 u1_0 u1_1 u1_2 u1_3) = m_ticketlineref16_Compact_l1 N n u1_0 u1_1 u1_2 u1_3 := by
  intro N n
  induction n with
  | zero => intro u1_0 u1_1 u1_2 u1_3; kernel_rfl
  | succ n ih =>
    intro u1_0 u1_1 u1_2 u1_3
    have e : loopAt (c20 N) a20 [1, 1, 1, 1, 1, 0, 1, 0] [] (codeOf Try.f20) (k20 N) (n + 1) (h20_1 u1_0 u1_1 u1_2 u1_3) = m_ticketlineref16_Compact_l1_b (fun w0 w1 w2 w3 => loopAt (c20 N) a20 [1, 1, 1, 1, 1, 0, 1, 0] [] (codeOf Try.f20) (k20 N) n (h20_1 w0 w1 w2 w3)) u1_0 u1_1 u1_2 u1_3 := by kernel_rfl
    refine e.trans ?_
    have es : (fun w0 w1 w2 w3 => loopAt (c20 N) a20 [1, 1, 1, 1, 1, 0, 1, 0] [] (codeOf Try.f20) (k20 N) n (h20_1 w0 w1 w2 w3)) = m_ticketlineref16_Compact_l1 N n := by
      funext w0 w1 w2 w3; exact ih w0 w1 w2 w3
    rw [es]
    rw [m_ticketlineref16_Compact_l1]
theorem t20_0 : ∀ (N : Nat) (n : Nat) (u0_0 : Int) (u0_1 : (List Int)) (u0_2 : (List (ByteArray × (ByteArray × Unit)))) (u0_3 : (List Int)), loopAt (c20 N) a20 [1, 1, 1, 1, 0, 1, 0] [] (codeOf Try.f20) (k20 N) n (h20_0 u0_0 u0_1 u0_2 u0_3) = m_ticketlineref16_Compact_l0 N n u0_0 u0_1 u0_2 u0_3 := by
  intro N n
  induction n with
  | zero => intro u0_0 u0_1 u0_2 u0_3; kernel_rfl
  | succ n ih =>
    intro u0_0 u0_1 u0_2 u0_3
    have e : loopAt (c20 N) a20 [1, 1, 1, 1, 0, 1, 0] [] (codeOf Try.f20) (k20 N) (n + 1) (h20_0 u0_0 u0_1 u0_2 u0_3) = m_ticketlineref16_Compact_l0_b (fun w0 w1 w2 w3 => loopAt (c20 N) a20 [1, 1, 1, 1, 0, 1, 0] [] (codeOf Try.f20) (k20 N) n (h20_0 w0 w1 w2 w3)) (fun w0 w1 w2 w3 => loopAt (c20 N) a20 [1, 1, 1, 1, 1, 0, 1, 0] [] (codeOf Try.f20) (k20 N) N (h20_1 w0 w1 w2 w3)) u0_0 u0_1 u0_2 u0_3 := by kernel_rfl
    refine e.trans ?_
    have e1 : (fun w0 w1 w2 w3 => loopAt (c20 N) a20 [1, 1, 1, 1, 1, 0, 1, 0] [] (codeOf Try.f20) (k20 N) N (h20_1 w0 w1 w2 w3)) = m_ticketlineref16_Compact_l1 N N := by
      funext w0 w1 w2 w3; exact t20_1 N N w0 w1 w2 w3
    rw [e1]
    have es : (fun w0 w1 w2 w3 => loopAt (c20 N) a20 [1, 1, 1, 1, 0, 1, 0] [] (codeOf Try.f20) (k20 N) n (h20_0 w0 w1 w2 w3)) = m_ticketlineref16_Compact_l0 N n := by
      funext w0 w1 w2 w3; exact ih w0 w1 w2 w3
    rw [es]
    rw [m_ticketlineref16_Compact_l0]
theorem ew20 : ∀ (N : Nat) (x : g20.ps.den), evalFn (c20 N) an20 Try.f20 (codeOf Try.f20) g20 x (fun p => p.1.1) = m_ticketlineref16_Compact_a (m_ticketlineref16_Compact_l0 N N) x.1 := by
  intro N
  intro x
  obtain ⟨x0, xu⟩ := x
  have e : evalFn (c20 N) an20 Try.f20 (codeOf Try.f20) g20 (x0, xu) (fun p => p.1.1) = m_ticketlineref16_Compact_a (fun w0 w1 w2 w3 => loopAt (c20 N) a20 [1, 1, 1, 1, 0, 1, 0] [] (codeOf Try.f20) (k20 N) N (h20_0 w0 w1 w2 w3)) x0 := by kernel_rfl
  refine e.trans ?_
  have e0 : (fun w0 w1 w2 w3 => loopAt (c20 N) a20 [1, 1, 1, 1, 0, 1, 0] [] (codeOf Try.f20) (k20 N) N (h20_0 w0 w1 w2 w3)) = m_ticketlineref16_Compact_l0 N N := by
    funext w0 w1 w2 w3; exact t20_0 N N w0 w1 w2 w3
  rw [e0]
theorem ev20 : ∀ x : g20.ps.den, evalFn (c20 FUEL) an20 Try.f20 (codeOf Try.f20) g20 x (fun p => p.1.1) = g20.m x := fun x => ew20 FUEL x
theorem meets20 : Meets Try.prog 20 g20 :=
  meets_of (C := c20 FUEL) (ann := an20) (mkC_ok (gs := [(14, g14), (36, g36)]) (is := []) (mt := mtL) tysOK elemOK ⟨meets14, meets36, trivial⟩ trivial mtOK FUEL) mixed Try.func20 (by kernel_rfl) (by kernel_rfl) (by kernel_rfl) (of_decide_eq_true (by kernel_rfl)) (fun p => p.1.1) (fun _ _ => ⟨rfl, rfl⟩) ev20
def c64 (N : Nat) : Cx := mkC tyL [] [] mtL N
def g64 : Sig := ⟨(.cons (.pure (.arr 128 (.int .u64))) .nl), (.cons (.pure (.int .i64)) .nl), Int, fun x => m_ticketlineref16_gap x.1, fun _ y => (y, ()), fun _ y => ((), ())⟩
def an64 : Nat → Ann := mkA []
theorem ev64 : ∀ x : g64.ps.den, evalFn (c64 FUEL) an64 Try.f64 (codeOf Try.f64) g64 x (fun p => p.1.1) = g64.m x := by
  intro x
  obtain ⟨x0, xu⟩ := x
  show _ = _
  kernel_rfl
theorem meets64 : Meets Try.prog 64 g64 :=
  meets_of (C := c64 FUEL) (ann := an64) (mkC_ok (gs := []) (is := []) (mt := mtL) tysOK elemOK trivial trivial mtOK FUEL) mixed Try.func64 (by kernel_rfl) (by kernel_rfl) (by kernel_rfl) (of_decide_eq_true (by kernel_rfl)) (fun p => p.1.1) (fun _ _ => ⟨rfl, rfl⟩) ev64
def c44 (N : Nat) : Cx := mkC tyL [(20, g20), (35, g35), (36, g36), (64, g64)] [] mtL N
def g44 : Sig := ⟨(.cons (.pure (.arr 128 (.int .u64))) (.cons (.pure (.int .i64)) (.cons (.pure (.pair .str (.pair .str .nl))) .nl))), (.cons (.pure (.arr 128 (.int .u64))) .nl), (List Int), fun x => m_ticketlineref16_Add x.1 x.2.1 x.2.2.1, fun _ y => (y, ()), fun _ y => ((), ((), ((), ())))⟩
def an44 : Nat → Ann := mkA [(7, ⟨[1, 3, 6, 8, 9], [], [3, 6], false⟩)]
noncomputable def k44 (N : Nat) : Ex → St → Option (List Int) := finK (c44 N) Try.f44 g44 (.cons .top (.cons .top (.cons .top .nl))) (fun p => p.1.1)
def a44 : Nat → Ann := annP [] an44
def h44_0 (u0_0 : Int) (u0_1 : Int) (u0_2 : Int) (u0_3 : (List Int)) (u0_4 : (List Int)) : St := ⟨46, [(1, (.int .i64 u0_0)), (3, (.ref 3 [])), (6, (.ref 6 [])), (8, (.int .u64 u0_1)), (9, (.int .i64 u0_2))], [(3, (.arr (.int .u64) 128 u0_3)), (6, (.arr (.int .u64) 128 u0_4))]⟩
theorem t44_0 : ∀ (N : Nat) (n : Nat) (u0_0 : Int) (u0_1 : Int) (u0_2 : Int) (u0_3 : (List Int)) (u0_4 : (List Int)), loopAt (c44 N) a44 [1, 1, 1, 1, 1, 0, 1, 0] [] (codeOf Try.f44) (k44 N) n (h44_0 u0_0 u0_1 u0_2 u0_3 u0_4) = m_ticketlineref16_Add_l0 N n u0_0 u0_1 u0_2 u0_3 u0_4 := by
  intro N n
  induction n with
  | zero => intro u0_0 u0_1 u0_2 u0_3 u0_4; kernel_rfl
  | succ n ih =>
    intro u0_0 u0_1 u0_2 u0_3 u0_4
    have e : loopAt (c44 N) a44 [1, 1, 1, 1, 1, 0, 1, 0] [] (codeOf Try.f44) (k44 N) (n + 1) (h44_0 u0_0 u0_1 u0_2 u0_3 u0_4) = m_ticketlineref16_Add_l0_b (fun w0 w1 w2 w3 w4 => loopAt (c44 N) a44 [1, 1, 1, 1, 1, 0, 1, 0] [] (codeOf Try.f44) (k44 N) n (h44_0 w0 w1 w2 w3 w4)) u0_0 u0_1 u0_2 u0_3 u0_4 := by kernel_rfl
    refine e.trans ?_
    have es : (fun w0 w1 w2 w3 w4 => loopAt (c44 N) a44 [1, 1, 1, 1, 1, 0, 1, 0] [] (codeOf Try.f44) (k44 N) n (h44_0 w0 w1 w2 w3 w4)) = m_ticketlineref16_Add_l0 N n := by
      funext w0 w1 w2 w3 w4; exact ih w0 w1 w2 w3 w4
    rw [es]
    rw [m_ticketlineref16_Add_l0]
theorem ew44 : ∀ (N : Nat) (x : g44.ps.den), evalFn (c44 N) an44 Try.f44 (codeOf Try.f44) g44 x (fun p => p.1.1) = m_ticketlineref16_Add_a (m_ticketlineref16_Add_l0 N N) x.1 x.2.1 x.2.2.1 := by
  intro N
  intro x
  obtain ⟨x0, x1, x2, xu⟩ := x
  have e : evalFn (c44 N) an44 Try.f44 (codeOf Try.f44) g44 (x0, x1, x2, xu) (fun p => p.1.1) = m_ticketlineref16_Add_a (fun w0 w1 w2 w3 w4 => loopAt (c44 N) a44 [1, 1, 1, 1, 1, 0, 1, 0] [] (codeOf Try.f44) (k44 N) N (h44_0 w0 w1 w2 w3 w4)) x0 x1 x2 := by kernel_rfl
  refine e.trans ?_
  have e0 : (fun w0 w1 w2 w3 w4 => loopAt (c44 N) a44 [1, 1, 1, 1, 1, 0, 1, 0] [] (codeOf Try.f44) (k44 N) N (h44_0 w0 w1 w2 w3 w4)) = m_ticketlineref16_Add_l0 N N := by
    funext w0 w1 w2 w3 w4; exact t44_0 N N w0 w1 w2 w3 w4
  rw [e0]
theorem ev44 : ∀ x : g44.ps.den, evalFn (c44 FUEL) an44 Try.f44 (codeOf Try.f44) g44 x (fun p => p.1.1) = g44.m x := fun x => ew44 FUEL x
theorem meets44 : Meets Try.prog 44 g44 :=
  meets_of (C := c44 FUEL) (ann := an44) (mkC_ok (gs := [(20, g20), (35, g35), (36, g36), (64, g64)]) (is := []) (mt := mtL) tysOK elemOK ⟨meets20, meets35, meets36, meets64, trivial⟩ trivial mtOK FUEL) mixed Try.func44 (by kernel_rfl) (by kernel_rfl) (by kernel_rfl) (of_decide_eq_true (by kernel_rfl)) (fun p => p.1.1) (fun _ _ => ⟨rfl, rfl⟩) ev44
def c15 (N : Nat) : Cx := mkC tyL [(13, g13), (14, g14), (28, g28), (31, g31), (33, g33), (35, g35), (38, g38), (41, g41), (42, g42), (43, g43), (44, g44)] [] mtL N
def g15 : Sig := ⟨(.cons (.pure (.arr 128 (.int .u64))) (.cons (.pure (.pair .str (.pair .str .nl))) (.cons (.pure .bool) .nl))), (.cons (.pure (.arr 128 (.int .u64))) (.cons (.pure (.int .i64)) .nl)), ((List Int) × Int), fun x => m_ticketlineref16_Put x.1 x.2.1 x.2.2.1, fun _ y => (y.1, (y.2, ())), fun _ y => ((), ((), ((), ())))⟩
def an15 : Nat → Ann := mkA [(20, ⟨[3, 4, 6, 10, 14, 16, 17], [], [3, 4, 6, 14, 202848], false⟩)]
noncomputable def k15 (N : Nat) : Ex → St → Option ((List Int) × Int) := finK (c15 N) Try.f15 g15 (.cons .top (.cons .top (.cons .top .nl))) (fun p => (p.1.1, p.1.2.1))
def a15 : Nat → Ann := annP [] an15
def h15_0 (u0_0 : Int) (u0_1 : Int) (u0_2 : (List Int)) (u0_3 : ByteArray) (u0_4 : ByteArray) (u0_5 : (List Int)) (u0_6 : Int) (u0_7 : Int) (u0_8 : Int) (u0_9 : (List Int)) : St := ⟨134, [(3, (.ref 3 [])), (4, (.ref 4 [])), (6, (.ref 6 [])), (10, (.int .i64 u0_0)), (14, (.ref 14 [])), (16, (.full 202848)), (17, (.int .i64 u0_1))], [(3, (.arr (.int .u64) 128 u0_2)), (4, (.cons (.str u0_3) (.cons (.str u0_4) .nl))), (6, (.arr (.int .u64) 128 u0_5)), (14, (.cons (.int .i64 u0_6) (.cons (.int .i64 u0_7) (.cons (.int .i64 u0_8) .nl)))), (202848, (.bk (.int .u64) u0_9))]⟩
theorem t15_0 : ∀ (N : Nat) (n : Nat) (u0_0 : Int) (u0_1 : Int) (u0_2 : (List Int)) (u0_3 : ByteArray) (u0_4 : ByteArray) (u0_5 : (List Int)) (u0_6 : Int) (u0_7 : Int) (u0_8 : Int) (u0_9 : (List Int)), loopAt (c15 N) a15 [1, 1, 1, 1, 1, 1, 1, 1, 1, 0, 1, 0, 1, 1, 0, 1, 0] [] (codeOf Try.f15) (k15 N) n (h15_0 u0_0 u0_1 u0_2 u0_3 u0_4 u0_5 u0_6 u0_7 u0_8 u0_9) = m_ticketlineref16_Put_l0 N n u0_0 u0_1 u0_2 u0_3 u0_4 u0_5 u0_6 u0_7 u0_8 u0_9 := by
  intro N n
  induction n with
  | zero => intro u0_0 u0_1 u0_2 u0_3 u0_4 u0_5 u0_6 u0_7 u0_8 u0_9; kernel_rfl
  | succ n ih =>
    intro u0_0 u0_1 u0_2 u0_3 u0_4 u0_5 u0_6 u0_7 u0_8 u0_9
    have e : loopAt (c15 N) a15 [1, 1, 1, 1, 1, 1, 1, 1, 1, 0, 1, 0, 1, 1, 0, 1, 0] [] (codeOf Try.f15) (k15 N) (n + 1) (h15_0 u0_0 u0_1 u0_2 u0_3 u0_4 u0_5 u0_6 u0_7 u0_8 u0_9) = m_ticketlineref16_Put_l0_b (fun w0 w1 w2 w3 w4 w5 w6 w7 w8 w9 => loopAt (c15 N) a15 [1, 1, 1, 1, 1, 1, 1, 1, 1, 0, 1, 0, 1, 1, 0, 1, 0] [] (codeOf Try.f15) (k15 N) n (h15_0 w0 w1 w2 w3 w4 w5 w6 w7 w8 w9)) u0_0 u0_1 u0_2 u0_3 u0_4 u0_5 u0_6 u0_7 u0_8 u0_9 := by kernel_rfl
    refine e.trans ?_
    have es : (fun w0 w1 w2 w3 w4 w5 w6 w7 w8 w9 => loopAt (c15 N) a15 [1, 1, 1, 1, 1, 1, 1, 1, 1, 0, 1, 0, 1, 1, 0, 1, 0] [] (codeOf Try.f15) (k15 N) n (h15_0 w0 w1 w2 w3 w4 w5 w6 w7 w8 w9)) = m_ticketlineref16_Put_l0 N n := by
      funext w0 w1 w2 w3 w4 w5 w6 w7 w8 w9; exact ih w0 w1 w2 w3 w4 w5 w6 w7 w8 w9
    rw [es]
    rw [m_ticketlineref16_Put_l0]
theorem ew15 : ∀ (N : Nat) (x : g15.ps.den), evalFn (c15 N) an15 Try.f15 (codeOf Try.f15) g15 x (fun p => (p.1.1, p.1.2.1)) = m_ticketlineref16_Put_a (m_ticketlineref16_Put_l0 N N) x.1 x.2.1 x.2.2.1 := by
  intro N
  intro x
  obtain ⟨x0, x1, x2, xu⟩ := x
  have e : evalFn (c15 N) an15 Try.f15 (codeOf Try.f15) g15 (x0, x1, x2, xu) (fun p => (p.1.1, p.1.2.1)) = m_ticketlineref16_Put_a (fun w0 w1 w2 w3 w4 w5 w6 w7 w8 w9 => loopAt (c15 N) a15 [1, 1, 1, 1, 1, 1, 1, 1, 1, 0, 1, 0, 1, 1, 0, 1, 0] [] (codeOf Try.f15) (k15 N) N (h15_0 w0 w1 w2 w3 w4 w5 w6 w7 w8 w9)) x0 x1 x2 := by kernel_rfl
  refine e.trans ?_
  have e0 : (fun w0 w1 w2 w3 w4 w5 w6 w7 w8 w9 => loopAt (c15 N) a15 [1, 1, 1, 1, 1, 1, 1, 1, 1, 0, 1, 0, 1, 1, 0, 1, 0] [] (codeOf Try.f15) (k15 N) N (h15_0 w0 w1 w2 w3 w4 w5 w6 w7 w8 w9)) = m_ticketlineref16_Put_l0 N N := by
    funext w0 w1 w2 w3 w4 w5 w6 w7 w8 w9; exact t15_0 N N w0 w1 w2 w3 w4 w5 w6 w7 w8 w9
  rw [e0]
theorem ev15 : ∀ x : g15.ps.den, evalFn (c15 FUEL) an15 Try.f15 (codeOf Try.f15) g15 x (fun p => (p.1.1, p.1.2.1)) = g15.m x := fun x => ew15 FUEL x
theorem meets15 : Meets Try.prog 15 g15 :=
  meets_of (C := c15 FUEL) (ann := an15) (mkC_ok (gs := [(13, g13), (14, g14), (28, g28), (31, g31), (33, g33), (35, g35), (38, g38), (41, g41), (42, g42), (43, g43), (44, g44)]) (is := []) (mt := mtL) tysOK elemOK ⟨meets13, meets14, meets28, meets31, meets33, meets35, meets38, meets41, meets42, meets43, meets44, trivial⟩ trivial mtOK FUEL) mixed Try.func15 (by kernel_rfl) (by kernel_rfl) (by kernel_rfl) (of_decide_eq_true (by kernel_rfl)) (fun p => (p.1.1, p.1.2.1)) (fun _ _ => ⟨rfl, rfl⟩) ev15
def c17 (N : Nat) : Cx := mkC tyL [(32, g32)] [] mtL N
def g17 : Sig := ⟨(.cons (.pure (.arr 128 (.int .u64))) (.cons (.pure .str) (.cons (.pure .str) (.cons (.pure (.arr 128 (.int .u64))) (.cons (.pure (.int .i64)) .nl))))), (.cons (.pure .bool) .nl), Bool, fun x => m_ticketlinelaw16_puts x.1 x.2.1 x.2.2.1 x.2.2.2.1 x.2.2.2.2.1, fun _ y => (y, ()), fun _ y => ((), ((), ((), ((), ((), ())))))⟩
def an17 : Nat → Ann := mkA []
theorem ev17 : ∀ x : g17.ps.den, evalFn (c17 FUEL) an17 Try.f17 (codeOf Try.f17) g17 x (fun p => p.1.1) = g17.m x := by
  intro x
  obtain ⟨x0, x1, x2, x3, x4, xu⟩ := x
  show _ = _
  kernel_rfl
theorem meets17 : Meets Try.prog 17 g17 :=
  meets_of (C := c17 FUEL) (ann := an17) (mkC_ok (gs := [(32, g32)]) (is := []) (mt := mtL) tysOK elemOK ⟨meets32, trivial⟩ trivial mtOK FUEL) mixed Try.func17 (by kernel_rfl) (by kernel_rfl) (by kernel_rfl) (of_decide_eq_true (by kernel_rfl)) (fun p => p.1.1) (fun _ _ => ⟨rfl, rfl⟩) ev17
def c18 (N : Nat) : Cx := mkC tyL [(13, g13), (14, g14), (31, g31), (43, g43)] [] mtL N
def g18 : Sig := ⟨(.cons (.pure (.arr 128 (.int .u64))) (.cons (.pure .str) .nl)), (.cons (.pure (.arr 128 (.int .u64))) (.cons (.pure .str) (.cons (.pure (.int .i64)) .nl))), ((List Int) × ByteArray × Int), fun x => m_ticketlineref16_Remove x.1 x.2.1, fun _ y => (y.1, (y.2.1, (y.2.2, ()))), fun _ y => ((), ((), ()))⟩
def an18 : Nat → Ann := mkA []
theorem ev18 : ∀ x : g18.ps.den, evalFn (c18 FUEL) an18 Try.f18 (codeOf Try.f18) g18 x (fun p => (p.1.1, p.1.2.1, p.1.2.2.1)) = g18.m x := by
  intro x
  obtain ⟨x0, x1, xu⟩ := x
  show _ = _
  kernel_rfl
theorem meets18 : Meets Try.prog 18 g18 :=
  meets_of (C := c18 FUEL) (ann := an18) (mkC_ok (gs := [(13, g13), (14, g14), (31, g31), (43, g43)]) (is := []) (mt := mtL) tysOK elemOK ⟨meets13, meets14, meets31, meets43, trivial⟩ trivial mtOK FUEL) mixed Try.func18 (by kernel_rfl) (by kernel_rfl) (by kernel_rfl) (of_decide_eq_true (by kernel_rfl)) (fun p => (p.1.1, p.1.2.1, p.1.2.2.1)) (fun _ _ => ⟨rfl, rfl⟩) ev18
def c11 (N : Nat) : Cx := mkC tyL [(15, g15), (16, g16), (17, g17), (18, g18), (19, g19), (20, g20), (21, g21), (34, g34)] [] mtL N
def g11 : Sig := ⟨(.cons (.pure (.arr 128 (.int .u64))) (.cons (.pure (.pair .str (.pair .str .nl))) .nl)), (.cons (.pure .bool) .nl), Bool, fun x => m_ticketlinelaw16_right x.1 x.2.1, fun _ y => (y, ()), fun _ y => ((), ((), ()))⟩
def an11 : Nat → Ann := mkA []
theorem ev11 : ∀ x : g11.ps.den, evalFn (c11 FUEL) an11 Try.f11 (codeOf Try.f11) g11 x (fun p => p.1.1) = g11.m x := by
  intro x
  obtain ⟨x0, x1, xu⟩ := x
  show _ = _
  kernel_rfl
theorem meets11 : Meets Try.prog 11 g11 :=
  meets_of (C := c11 FUEL) (ann := an11) (mkC_ok (gs := [(15, g15), (16, g16), (17, g17), (18, g18), (19, g19), (20, g20), (21, g21), (34, g34)]) (is := []) (mt := mtL) tysOK elemOK ⟨meets15, meets16, meets17, meets18, meets19, meets20, meets21, meets34, trivial⟩ trivial mtOK FUEL) mixed Try.func11 (by kernel_rfl) (by kernel_rfl) (by kernel_rfl) (of_decide_eq_true (by kernel_rfl)) (fun p => p.1.1) (fun _ _ => ⟨rfl, rfl⟩) ev11
def c3 (N : Nat) : Cx := mkC tyL [(9, g9), (10, g10), (11, g11)] [] mtL N
def g3 : Sig := ⟨(.cons (.pure (.pair (.int .i64) (.pair (.int .i64) (.pair .str (.pair .str (.pair (.sl (.pair .str (.pair .str .nl))) (.pair (.sl (.int .u8)) (.pair (.sl (.pair (.int .u8) (.pair (.int .u64) .nl))) .nl)))))))) (.cons (.pure .str) (.cons (.pure .str) .nl))), (.cons (.pure .bool) .nl), Bool, fun x => m_ticketlinelaw16_PageChanges x.1 x.2.1 x.2.2.1, fun _ y => (y, ()), fun _ y => ((), ((), ((), ())))⟩
def an3 : Nat → Ann := mkA []
theorem ev3 : ∀ x : g3.ps.den, evalFn (c3 FUEL) an3 Try.f3 (codeOf Try.f3) g3 x (fun p => p.1.1) = g3.m x := by
  intro x
  obtain ⟨x0, x1, x2, xu⟩ := x
  show _ = _
  kernel_rfl
theorem meets3 : Meets Try.prog 3 g3 :=
  meets_of (C := c3 FUEL) (ann := an3) (mkC_ok (gs := [(9, g9), (10, g10), (11, g11)]) (is := []) (mt := mtL) tysOK elemOK ⟨meets9, meets10, meets11, trivial⟩ trivial mtOK FUEL) mixed Try.func3 (by kernel_rfl) (by kernel_rfl) (by kernel_rfl) (of_decide_eq_true (by kernel_rfl)) (fun p => p.1.1) (fun _ _ => ⟨rfl, rfl⟩) ev3
def c12 (N : Nat) : Cx := mkC tyL [(9, g9), (34, g34)] [] mtL N
def g12 : Sig := ⟨(.cons (.pure (.pair (.int .i64) (.pair (.int .i64) (.pair .str (.pair .str (.pair (.sl (.pair .str (.pair .str .nl))) (.pair (.sl (.int .u8)) (.pair (.sl (.pair (.int .u8) (.pair (.int .u64) .nl))) .nl)))))))) .nl), (.cons (.pure (.arr 128 (.int .u64))) (.cons (.pure .bool) .nl)), ((List Int) × Bool), fun x => m_ticketlineref14_Plan_Used x.1, fun _ y => (y.1, (y.2, ())), fun _ y => ((), ())⟩
def an12 : Nat → Ann := mkA []
theorem ev12 : ∀ x : g12.ps.den, evalFn (c12 FUEL) an12 Try.f12 (codeOf Try.f12) g12 x (fun p => (p.1.1, p.1.2.1)) = g12.m x := by
  intro x
  obtain ⟨x0, xu⟩ := x
  show _ = _
  kernel_rfl
theorem meets12 : Meets Try.prog 12 g12 :=
  meets_of (C := c12 FUEL) (ann := an12) (mkC_ok (gs := [(9, g9), (34, g34)]) (is := []) (mt := mtL) tysOK elemOK ⟨meets9, meets34, trivial⟩ trivial mtOK FUEL) mixed Try.func12 (by kernel_rfl) (by kernel_rfl) (by kernel_rfl) (of_decide_eq_true (by kernel_rfl)) (fun p => (p.1.1, p.1.2.1)) (fun _ _ => ⟨rfl, rfl⟩) ev12
def c4 (N : Nat) : Cx := mkC tyL [(10, g10), (12, g12), (13, g13), (14, g14), (15, g15), (16, g16), (17, g17), (18, g18), (19, g19), (20, g20), (21, g21)] [] mtL N
def g4 : Sig := ⟨(.cons (.pure (.pair (.int .i64) (.pair (.int .i64) (.pair .str (.pair .str (.pair (.sl (.pair .str (.pair .str .nl))) (.pair (.sl (.int .u8)) (.pair (.sl (.pair (.int .u8) (.pair (.int .u64) .nl))) .nl)))))))) (.cons (.pure (.sl (.pair (.int .i64) (.pair .bool (.pair (.int .u8) (.pair .str (.pair .str .nl))))))) .nl)), (.cons (.pure .bool) .nl), Bool, fun x => m_ticketlinelaw16_PagePlays x.1 x.2.1, fun _ y => (y, ()), fun _ y => ((), ((), ()))⟩
def an4 : Nat → Ann := mkA [(5, ⟨[1, 5, 7], [], [5], false⟩), (1000013, ⟨[1, 5, 7, 8], [], [5, 8], true⟩), (1000014, ⟨[1, 5, 7, 8, 10], [], [5, 8, 10], true⟩), (1000015, ⟨[1, 5, 7, 8, 10, 11], [], [5, 8, 10], true⟩), (1000017, ⟨[1, 5, 7, 8, 10, 11, 75], [], [5, 8, 10], true⟩), (1000020, ⟨[1, 5, 7, 8, 10, 11], [], [5, 8, 10], true⟩), (1000032, ⟨[1, 5, 7, 10, 11], [], [5, 10], true⟩), (1000006, ⟨[1, 5, 7], [], [5], true⟩), (1000024, ⟨[1, 5, 7, 8, 10], [], [5, 8, 10], true⟩), (1000025, ⟨[1, 5, 7, 8, 10, 11, 12], [], [5, 8, 10], true⟩), (1000029, ⟨[1, 5, 7, 10, 11], [], [5, 10], true⟩), (1000030, ⟨[1, 5, 7, 10, 11, 13, 14], [], [5, 10, 13], true⟩)]
noncomputable def k4 (N : Nat) : Ex → St → Option Bool := finK (c4 N) Try.f4 g4 (.cons .top (.cons .top .nl)) (fun p => p.1.1)
def a4 : Nat → Ann := annP [] an4
def h4_7 (u7_0 : (List (Int × (Bool × (Int × (ByteArray × (ByteArray × Unit))))))) (u7_1 : Int) (u7_2 : (List Int)) : St := ⟨161, [(1, (.lst (.pair (.int .i64) (.pair .bool (.pair (.int .u8) (.pair .str (.pair .str .nl))))) u7_0)), (5, (.ref 5 [])), (7, (.int .i64 u7_1))], [(5, (.arr (.int .u64) 128 u7_2))]⟩
def h4_6 (u6_0 : (List (Int × (Bool × (Int × (ByteArray × (ByteArray × Unit))))))) (u6_1 : Int) (u6_2 : Int) (u6_3 : (List Int)) (u6_4 : (List Int)) : St := ⟨161, [(1, (.lst (.pair (.int .i64) (.pair .bool (.pair (.int .u8) (.pair .str (.pair .str .nl))))) u6_0)), (5, (.ref 5 [])), (7, (.int .i64 u6_1)), (10, (.ref 10 [])), (11, (.int .i64 u6_2))], [(5, (.arr (.int .u64) 128 u6_3)), (10, (.arr (.int .u64) 128 u6_4))]⟩
def h4_5 (u5_0 : (List (Int × (Bool × (Int × (ByteArray × (ByteArray × Unit))))))) (u5_1 : Int) (u5_2 : Int) (u5_3 : (List Int)) (u5_4 : Int) (u5_5 : Bool) (u5_6 : Int) (u5_7 : ByteArray) (u5_8 : ByteArray) (u5_9 : (List Int)) : St := ⟨161, [(1, (.lst (.pair (.int .i64) (.pair .bool (.pair (.int .u8) (.pair .str (.pair .str .nl))))) u5_0)), (5, (.ref 5 [])), (7, (.int .i64 u5_1)), (8, (.ref 8 [])), (10, (.ref 10 [])), (11, (.int .i64 u5_2))], [(5, (.arr (.int .u64) 128 u5_3)), (8, (.cons (.int .i64 u5_4) (.cons (.bool u5_5) (.cons (.int .u8 u5_6) (.cons (.str u5_7) (.cons (.str u5_8) .nl)))))), (10, (.arr (.int .u64) 128 u5_9))]⟩
def h4_9 (u9_0 : (List (Int × (Bool × (Int × (ByteArray × (ByteArray × Unit))))))) (u9_1 : Int) (u9_2 : Int) (u9_3 : ByteArray) (u9_4 : (List Int)) (u9_5 : Int) (u9_6 : Bool) (u9_7 : Int) (u9_8 : ByteArray) (u9_9 : ByteArray) (u9_10 : (List Int)) : St := ⟨161, [(1, (.lst (.pair (.int .i64) (.pair .bool (.pair (.int .u8) (.pair .str (.pair .str .nl))))) u9_0)), (5, (.ref 5 [])), (7, (.int .i64 u9_1)), (8, (.ref 8 [])), (10, (.ref 10 [])), (11, (.int .i64 u9_2)), (12, (.str u9_3))], [(5, (.arr (.int .u64) 128 u9_4)), (8, (.cons (.int .i64 u9_5) (.cons (.bool u9_6) (.cons (.int .u8 u9_7) (.cons (.str u9_8) (.cons (.str u9_9) .nl)))))), (10, (.arr (.int .u64) 128 u9_10))]⟩
def h4_8 (u8_0 : (List (Int × (Bool × (Int × (ByteArray × (ByteArray × Unit))))))) (u8_1 : Int) (u8_2 : (List Int)) (u8_3 : Int) (u8_4 : Bool) (u8_5 : Int) (u8_6 : ByteArray) (u8_7 : ByteArray) (u8_8 : (List Int)) : St := ⟨161, [(1, (.lst (.pair (.int .i64) (.pair .bool (.pair (.int .u8) (.pair .str (.pair .str .nl))))) u8_0)), (5, (.ref 5 [])), (7, (.int .i64 u8_1)), (8, (.ref 8 [])), (10, (.ref 10 []))], [(5, (.arr (.int .u64) 128 u8_2)), (8, (.cons (.int .i64 u8_3) (.cons (.bool u8_4) (.cons (.int .u8 u8_5) (.cons (.str u8_6) (.cons (.str u8_7) .nl)))))), (10, (.arr (.int .u64) 128 u8_8))]⟩
def h4_11 (u11_0 : (List (Int × (Bool × (Int × (ByteArray × (ByteArray × Unit))))))) (u11_1 : Int) (u11_2 : Int) (u11_3 : Int) (u11_4 : (List Int)) (u11_5 : (List Int)) (u11_6 : (List Int)) : St := ⟨161, [(1, (.lst (.pair (.int .i64) (.pair .bool (.pair (.int .u8) (.pair .str (.pair .str .nl))))) u11_0)), (5, (.ref 5 [])), (7, (.int .i64 u11_1)), (10, (.ref 10 [])), (11, (.int .i64 u11_2)), (13, (.ref 13 [])), (14, (.int .i64 u11_3))], [(5, (.arr (.int .u64) 128 u11_4)), (10, (.arr (.int .u64) 128 u11_5)), (13, (.arr (.int .u64) 128 u11_6))]⟩
def h4_10 (u10_0 : (List (Int × (Bool × (Int × (ByteArray × (ByteArray × Unit))))))) (u10_1 : Int) (u10_2 : Int) (u10_3 : (List Int)) (u10_4 : (List Int)) : St := ⟨161, [(1, (.lst (.pair (.int .i64) (.pair .bool (.pair (.int .u8) (.pair .str (.pair .str .nl))))) u10_0)), (5, (.ref 5 [])), (7, (.int .i64 u10_1)), (10, (.ref 10 [])), (11, (.int .i64 u10_2))], [(5, (.arr (.int .u64) 128 u10_3)), (10, (.arr (.int .u64) 128 u10_4))]⟩
def h4_4 (u4_0 : (List (Int × (Bool × (Int × (ByteArray × (ByteArray × Unit))))))) (u4_1 : Int) (u4_2 : Int) (u4_3 : Int) (u4_4 : (List Int)) (u4_5 : Int) (u4_6 : Bool) (u4_7 : Int) (u4_8 : ByteArray) (u4_9 : ByteArray) (u4_10 : (List Int)) : St := ⟨161, [(1, (.lst (.pair (.int .i64) (.pair .bool (.pair (.int .u8) (.pair .str (.pair .str .nl))))) u4_0)), (5, (.ref 5 [])), (7, (.int .i64 u4_1)), (8, (.ref 8 [])), (10, (.ref 10 [])), (11, (.int .i64 u4_2)), (75, (.int .i64 u4_3))], [(5, (.arr (.int .u64) 128 u4_4)), (8, (.cons (.int .i64 u4_5) (.cons (.bool u4_6) (.cons (.int .u8 u4_7) (.cons (.str u4_8) (.cons (.str u4_9) .nl)))))), (10, (.arr (.int .u64) 128 u4_10))]⟩
def h4_3 (u3_0 : (List (Int × (Bool × (Int × (ByteArray × (ByteArray × Unit))))))) (u3_1 : Int) (u3_2 : Int) (u3_3 : (List Int)) (u3_4 : Int) (u3_5 : Bool) (u3_6 : Int) (u3_7 : ByteArray) (u3_8 : ByteArray) (u3_9 : (List Int)) : St := ⟨161, [(1, (.lst (.pair (.int .i64) (.pair .bool (.pair (.int .u8) (.pair .str (.pair .str .nl))))) u3_0)), (5, (.ref 5 [])), (7, (.int .i64 u3_1)), (8, (.ref 8 [])), (10, (.ref 10 [])), (11, (.int .i64 u3_2))], [(5, (.arr (.int .u64) 128 u3_3)), (8, (.cons (.int .i64 u3_4) (.cons (.bool u3_5) (.cons (.int .u8 u3_6) (.cons (.str u3_7) (.cons (.str u3_8) .nl)))))), (10, (.arr (.int .u64) 128 u3_9))]⟩
def h4_2 (u2_0 : (List (Int × (Bool × (Int × (ByteArray × (ByteArray × Unit))))))) (u2_1 : Int) (u2_2 : (List Int)) (u2_3 : Int) (u2_4 : Bool) (u2_5 : Int) (u2_6 : ByteArray) (u2_7 : ByteArray) (u2_8 : (List Int)) : St := ⟨161, [(1, (.lst (.pair (.int .i64) (.pair .bool (.pair (.int .u8) (.pair .str (.pair .str .nl))))) u2_0)), (5, (.ref 5 [])), (7, (.int .i64 u2_1)), (8, (.ref 8 [])), (10, (.ref 10 []))], [(5, (.arr (.int .u64) 128 u2_2)), (8, (.cons (.int .i64 u2_3) (.cons (.bool u2_4) (.cons (.int .u8 u2_5) (.cons (.str u2_6) (.cons (.str u2_7) .nl)))))), (10, (.arr (.int .u64) 128 u2_8))]⟩
def h4_1 (u1_0 : (List (Int × (Bool × (Int × (ByteArray × (ByteArray × Unit))))))) (u1_1 : Int) (u1_2 : (List Int)) (u1_3 : Int) (u1_4 : Bool) (u1_5 : Int) (u1_6 : ByteArray) (u1_7 : ByteArray) : St := ⟨161, [(1, (.lst (.pair (.int .i64) (.pair .bool (.pair (.int .u8) (.pair .str (.pair .str .nl))))) u1_0)), (5, (.ref 5 [])), (7, (.int .i64 u1_1)), (8, (.ref 8 []))], [(5, (.arr (.int .u64) 128 u1_2)), (8, (.cons (.int .i64 u1_3) (.cons (.bool u1_4) (.cons (.int .u8 u1_5) (.cons (.str u1_6) (.cons (.str u1_7) .nl))))))]⟩
def h4_0 (u0_0 : (List (Int × (Bool × (Int × (ByteArray × (ByteArray × Unit))))))) (u0_1 : Int) (u0_2 : (List Int)) : St := ⟨161, [(1, (.lst (.pair (.int .i64) (.pair .bool (.pair (.int .u8) (.pair .str (.pair .str .nl))))) u0_0)), (5, (.ref 5 [])), (7, (.int .i64 u0_1))], [(5, (.arr (.int .u64) 128 u0_2))]⟩
theorem t4_7 : ∀ (N : Nat) (m0 : Nat) (u7_0 : (List (Int × (Bool × (Int × (ByteArray × (ByteArray × Unit))))))) (u7_1 : Int) (u7_2 : (List Int)), cutAt (c4 N) a4 [1, 1, 1, 0, 1, 0, 0, 1, 1] [m0] (codeOf Try.f4) (k4 N) (h4_7 u7_0 u7_1 u7_2) = m_ticketlinelaw16_PagePlays_l7 N (fun w0 w1 w2 => loopAt (c4 N) a4 [1, 1, 1, 0, 1, 0] [] (codeOf Try.f4) (k4 N) m0 (h4_0 w0 w1 w2)) u7_0 u7_1 u7_2 := by
  intro N m0 u7_0 u7_1 u7_2
  have e : cutAt (c4 N) a4 [1, 1, 1, 0, 1, 0, 0, 1, 1] [m0] (codeOf Try.f4) (k4 N) (h4_7 u7_0 u7_1 u7_2) = m_ticketlinelaw16_PagePlays_l7_b (fun w0 w1 w2 => loopAt (c4 N) a4 [1, 1, 1, 0, 1, 0] [] (codeOf Try.f4) (k4 N) m0 (h4_0 w0 w1 w2)) u7_0 u7_1 u7_2 := by kernel_rfl
  refine e.trans ?_
  rfl
theorem t4_6 : ∀ (N : Nat) (m0 : Nat) (u6_0 : (List (Int × (Bool × (Int × (ByteArray × (ByteArray × Unit))))))) (u6_1 : Int) (u6_2 : Int) (u6_3 : (List Int)) (u6_4 : (List Int)), cutAt (c4 N) a4 [1, 1, 1, 0, 1, 0, 0, 1, 0, 0, 1, 1, 1, 1, 1, 1] [m0] (codeOf Try.f4) (k4 N) (h4_6 u6_0 u6_1 u6_2 u6_3 u6_4) = m_ticketlinelaw16_PagePlays_l6 N (fun w0 w1 w2 => loopAt (c4 N) a4 [1, 1, 1, 0, 1, 0] [] (codeOf Try.f4) (k4 N) m0 (h4_0 w0 w1 w2)) u6_0 u6_1 u6_2 u6_3 u6_4 := by
  intro N m0 u6_0 u6_1 u6_2 u6_3 u6_4
  have e : cutAt (c4 N) a4 [1, 1, 1, 0, 1, 0, 0, 1, 0, 0, 1, 1, 1, 1, 1, 1] [m0] (codeOf Try.f4) (k4 N) (h4_6 u6_0 u6_1 u6_2 u6_3 u6_4) = m_ticketlinelaw16_PagePlays_l6_b (fun w0 w1 w2 => loopAt (c4 N) a4 [1, 1, 1, 0, 1, 0] [] (codeOf Try.f4) (k4 N) m0 (h4_0 w0 w1 w2)) (fun w0 w1 w2 => cutAt (c4 N) a4 [1, 1, 1, 0, 1, 0, 0, 1, 1] [m0] (codeOf Try.f4) (k4 N) (h4_7 w0 w1 w2)) u6_0 u6_1 u6_2 u6_3 u6_4 := by kernel_rfl
  refine e.trans ?_
  have e7 : (fun w0 w1 w2 => cutAt (c4 N) a4 [1, 1, 1, 0, 1, 0, 0, 1, 1] [m0] (codeOf Try.f4) (k4 N) (h4_7 w0 w1 w2)) = m_ticketlinelaw16_PagePlays_l7 N (fun w0 w1 w2 => loopAt (c4 N) a4 [1, 1, 1, 0, 1, 0] [] (codeOf Try.f4) (k4 N) m0 (h4_0 w0 w1 w2)) := by
    funext w0 w1 w2; exact t4_7 N m0 w0 w1 w2
  rw [e7]
  rfl
theorem t4_5 : ∀ (N : Nat) (m0 : Nat) (u5_0 : (List (Int × (Bool × (Int × (ByteArray × (ByteArray × Unit))))))) (u5_1 : Int) (u5_2 : Int) (u5_3 : (List Int)) (u5_4 : Int) (u5_5 : Bool) (u5_6 : Int) (u5_7 : ByteArray) (u5_8 : ByteArray) (u5_9 : (List Int)), cutAt (c4 N) a4 [1, 1, 1, 0, 1, 0, 0, 1, 0, 0, 1, 1, 1, 1, 1, 0, 1, 0, 1, 0, 1] [m0] (codeOf Try.f4) (k4 N) (h4_5 u5_0 u5_1 u5_2 u5_3 u5_4 u5_5 u5_6 u5_7 u5_8 u5_9) = m_ticketlinelaw16_PagePlays_l5 N (fun w0 w1 w2 => loopAt (c4 N) a4 [1, 1, 1, 0, 1, 0] [] (codeOf Try.f4) (k4 N) m0 (h4_0 w0 w1 w2)) u5_0 u5_1 u5_2 u5_3 u5_4 u5_5 u5_6 u5_7 u5_8 u5_9 := by
  intro N m0 u5_0 u5_1 u5_2 u5_3 u5_4 u5_5 u5_6 u5_7 u5_8 u5_9
  have e : cutAt (c4 N) a4 [1, 1, 1, 0, 1, 0, 0, 1, 0, 0, 1, 1, 1, 1, 1, 0, 1, 0, 1, 0, 1] [m0] (codeOf Try.f4) (k4 N) (h4_5 u5_0 u5_1 u5_2 u5_3 u5_4 u5_5 u5_6 u5_7 u5_8 u5_9) = m_ticketlinelaw16_PagePlays_l5_b (fun w0 w1 w2 => loopAt (c4 N) a4 [1, 1, 1, 0, 1, 0] [] (codeOf Try.f4) (k4 N) m0 (h4_0 w0 w1 w2)) (fun w0 w1 w2 w3 w4 => cutAt (c4 N) a4 [1, 1, 1, 0, 1, 0, 0, 1, 0, 0, 1, 1, 1, 1, 1, 1] [m0] (codeOf Try.f4) (k4 N) (h4_6 w0 w1 w2 w3 w4)) u5_0 u5_1 u5_2 u5_3 u5_4 u5_5 u5_6 u5_7 u5_8 u5_9 := by kernel_rfl
  refine e.trans ?_
  have e6 : (fun w0 w1 w2 w3 w4 => cutAt (c4 N) a4 [1, 1, 1, 0, 1, 0, 0, 1, 0, 0, 1, 1, 1, 1, 1, 1] [m0] (codeOf Try.f4) (k4 N) (h4_6 w0 w1 w2 w3 w4)) = m_ticketlinelaw16_PagePlays_l6 N (fun w0 w1 w2 => loopAt (c4 N) a4 [1, 1, 1, 0, 1, 0] [] (codeOf Try.f4) (k4 N) m0 (h4_0 w0 w1 w2)) := by
    funext w0 w1 w2 w3 w4; exact t4_6 N m0 w0 w1 w2 w3 w4
  rw [e6]
  rfl
theorem t4_9 : ∀ (N : Nat) (m0 : Nat) (u9_0 : (List (Int × (Bool × (Int × (ByteArray × (ByteArray × Unit))))))) (u9_1 : Int) (u9_2 : Int) (u9_3 : ByteArray) (u9_4 : (List Int)) (u9_5 : Int) (u9_6 : Bool) (u9_7 : Int) (u9_8 : ByteArray) (u9_9 : ByteArray) (u9_10 : (List Int)), cutAt (c4 N) a4 [1, 1, 1, 0, 1, 0, 0, 1, 0, 0, 1, 1, 1, 1, 1, 0, 1, 0, 1, 1, 1, 0, 1, 1] [m0] (codeOf Try.f4) (k4 N) (h4_9 u9_0 u9_1 u9_2 u9_3 u9_4 u9_5 u9_6 u9_7 u9_8 u9_9 u9_10) = m_ticketlinelaw16_PagePlays_l9 N (fun w0 w1 w2 => loopAt (c4 N) a4 [1, 1, 1, 0, 1, 0] [] (codeOf Try.f4) (k4 N) m0 (h4_0 w0 w1 w2)) u9_0 u9_1 u9_2 u9_3 u9_4 u9_5 u9_6 u9_7 u9_8 u9_9 u9_10 := by
  intro N m0 u9_0 u9_1 u9_2 u9_3 u9_4 u9_5 u9_6 u9_7 u9_8 u9_9 u9_10
  have e : cutAt (c4 N) a4 [1, 1, 1, 0, 1, 0, 0, 1, 0, 0, 1, 1, 1, 1, 1, 0, 1, 0, 1, 1, 1, 0, 1, 1] [m0] (codeOf Try.f4) (k4 N) (h4_9 u9_0 u9_1 u9_2 u9_3 u9_4 u9_5 u9_6 u9_7 u9_8 u9_9 u9_10) = m_ticketlinelaw16_PagePlays_l9_b (fun w0 w1 w2 => loopAt (c4 N) a4 [1, 1, 1, 0, 1, 0] [] (codeOf Try.f4) (k4 N) m0 (h4_0 w0 w1 w2)) (fun w0 w1 w2 w3 w4 => cutAt (c4 N) a4 [1, 1, 1, 0, 1, 0, 0, 1, 0, 0, 1, 1, 1, 1, 1, 1] [m0] (codeOf Try.f4) (k4 N) (h4_6 w0 w1 w2 w3 w4)) u9_0 u9_1 u9_2 u9_3 u9_4 u9_5 u9_6 u9_7 u9_8 u9_9 u9_10 := by kernel_rfl
  refine e.trans ?_
  have e6 : (fun w0 w1 w2 w3 w4 => cutAt (c4 N) a4 [1, 1, 1, 0, 1, 0, 0, 1, 0, 0, 1, 1, 1, 1, 1, 1] [m0] (codeOf Try.f4) (k4 N) (h4_6 w0 w1 w2 w3 w4)) = m_ticketlinelaw16_PagePlays_l6 N (fun w0 w1 w2 => loopAt (c4 N) a4 [1, 1, 1, 0, 1, 0] [] (codeOf Try.f4) (k4 N) m0 (h4_0 w0 w1 w2)) := by
    funext w0 w1 w2 w3 w4; exact t4_6 N m0 w0 w1 w2 w3 w4
  rw [e6]
  rfl
theorem t4_8 : ∀ (N : Nat) (m0 : Nat) (u8_0 : (List (Int × (Bool × (Int × (ByteArray × (ByteArray × Unit))))))) (u8_1 : Int) (u8_2 : (List Int)) (u8_3 : Int) (u8_4 : Bool) (u8_5 : Int) (u8_6 : ByteArray) (u8_7 : ByteArray) (u8_8 : (List Int)), cutAt (c4 N) a4 [1, 1, 1, 0, 1, 0, 0, 1, 0, 0, 1, 1, 1, 1, 1, 0, 1, 0, 1, 1, 1, 0, 1] [m0] (codeOf Try.f4) (k4 N) (h4_8 u8_0 u8_1 u8_2 u8_3 u8_4 u8_5 u8_6 u8_7 u8_8) = m_ticketlinelaw16_PagePlays_l8 N (fun w0 w1 w2 => loopAt (c4 N) a4 [1, 1, 1, 0, 1, 0] [] (codeOf Try.f4) (k4 N) m0 (h4_0 w0 w1 w2)) u8_0 u8_1 u8_2 u8_3 u8_4 u8_5 u8_6 u8_7 u8_8 := by
  intro N m0 u8_0 u8_1 u8_2 u8_3 u8_4 u8_5 u8_6 u8_7 u8_8
  have e : cutAt (c4 N) a4 [1, 1, 1, 0, 1, 0, 0, 1, 0, 0, 1, 1, 1, 1, 1, 0, 1, 0, 1, 1, 1, 0, 1] [m0] (codeOf Try.f4) (k4 N) (h4_8 u8_0 u8_1 u8_2 u8_3 u8_4 u8_5 u8_6 u8_7 u8_8) = m_ticketlinelaw16_PagePlays_l8_b (fun w0 w1 w2 => loopAt (c4 N) a4 [1, 1, 1, 0, 1, 0] [] (codeOf Try.f4) (k4 N) m0 (h4_0 w0 w1 w2)) (fun w0 w1 w2 w3 w4 w5 w6 w7 w8 w9 w10 => cutAt (c4 N) a4 [1, 1, 1, 0, 1, 0, 0, 1, 0, 0, 1, 1, 1, 1, 1, 0, 1, 0, 1, 1, 1, 0, 1, 1] [m0] (codeOf Try.f4) (k4 N) (h4_9 w0 w1 w2 w3 w4 w5 w6 w7 w8 w9 w10)) u8_0 u8_1 u8_2 u8_3 u8_4 u8_5 u8_6 u8_7 u8_8 := by kernel_rfl
  refine e.trans ?_
  have e9 : (fun w0 w1 w2 w3 w4 w5 w6 w7 w8 w9 w10 => cutAt (c4 N) a4 [1, 1, 1, 0, 1, 0, 0, 1, 0, 0, 1, 1, 1, 1, 1, 0, 1, 0, 1, 1, 1, 0, 1, 1] [m0] (codeOf Try.f4) (k4 N) (h4_9 w0 w1 w2 w3 w4 w5 w6 w7 w8 w9 w10)) = m_ticketlinelaw16_PagePlays_l9 N (fun w0 w1 w2 => loopAt (c4 N) a4 [1, 1, 1, 0, 1, 0] [] (codeOf Try.f4) (k4 N) m0 (h4_0 w0 w1 w2)) := by
    funext w0 w1 w2 w3 w4 w5 w6 w7 w8 w9 w10; exact t4_9 N m0 w0 w1 w2 w3 w4 w5 w6 w7 w8 w9 w10
  rw [e9]
  rfl
theorem t4_11 : ∀ (N : Nat) (m0 : Nat) (u11_0 : (List (Int × (Bool × (Int × (ByteArray × (ByteArray × Unit))))))) (u11_1 : Int) (u11_2 : Int) (u11_3 : Int) (u11_4 : (List Int)) (u11_5 : (List Int)) (u11_6 : (List Int)), cutAt (c4 N) a4 [1, 1, 1, 0, 1, 0, 0, 1, 0, 0, 1, 1, 1, 1, 1, 0, 1, 0, 1, 1, 1, 1, 1, 0, 1, 1] [m0] (codeOf Try.f4) (k4 N) (h4_11 u11_0 u11_1 u11_2 u11_3 u11_4 u11_5 u11_6) = m_ticketlinelaw16_PagePlays_l11 N (fun w0 w1 w2 => loopAt (c4 N) a4 [1, 1, 1, 0, 1, 0] [] (codeOf Try.f4) (k4 N) m0 (h4_0 w0 w1 w2)) u11_0 u11_1 u11_2 u11_3 u11_4 u11_5 u11_6 := by
  intro N m0 u11_0 u11_1 u11_2 u11_3 u11_4 u11_5 u11_6
  have e : cutAt (c4 N) a4 [1, 1, 1, 0, 1, 0, 0, 1, 0, 0, 1, 1, 1, 1, 1, 0, 1, 0, 1, 1, 1, 1, 1, 0, 1, 1] [m0] (codeOf Try.f4) (k4 N) (h4_11 u11_0 u11_1 u11_2 u11_3 u11_4 u11_5 u11_6) = m_ticketlinelaw16_PagePlays_l11_b (fun w0 w1 w2 => loopAt (c4 N) a4 [1, 1, 1, 0, 1, 0] [] (codeOf Try.f4) (k4 N) m0 (h4_0 w0 w1 w2)) (fun w0 w1 w2 w3 w4 => cutAt (c4 N) a4 [1, 1, 1, 0, 1, 0, 0, 1, 0, 0, 1, 1, 1, 1, 1, 1] [m0] (codeOf Try.f4) (k4 N) (h4_6 w0 w1 w2 w3 w4)) u11_0 u11_1 u11_2 u11_3 u11_4 u11_5 u11_6 := by kernel_rfl
  refine e.trans ?_
  have e6 : (fun w0 w1 w2 w3 w4 => cutAt (c4 N) a4 [1, 1, 1, 0, 1, 0, 0, 1, 0, 0, 1, 1, 1, 1, 1, 1] [m0] (codeOf Try.f4) (k4 N) (h4_6 w0 w1 w2 w3 w4)) = m_ticketlinelaw16_PagePlays_l6 N (fun w0 w1 w2 => loopAt (c4 N) a4 [1, 1, 1, 0, 1, 0] [] (codeOf Try.f4) (k4 N) m0 (h4_0 w0 w1 w2)) := by
    funext w0 w1 w2 w3 w4; exact t4_6 N m0 w0 w1 w2 w3 w4
  rw [e6]
  rfl
theorem t4_10 : ∀ (N : Nat) (m0 : Nat) (u10_0 : (List (Int × (Bool × (Int × (ByteArray × (ByteArray × Unit))))))) (u10_1 : Int) (u10_2 : Int) (u10_3 : (List Int)) (u10_4 : (List Int)), cutAt (c4 N) a4 [1, 1, 1, 0, 1, 0, 0, 1, 0, 0, 1, 1, 1, 1, 1, 0, 1, 0, 1, 1, 1, 1, 1, 0, 1] [m0] (codeOf Try.f4) (k4 N) (h4_10 u10_0 u10_1 u10_2 u10_3 u10_4) = m_ticketlinelaw16_PagePlays_l10 N (fun w0 w1 w2 => loopAt (c4 N) a4 [1, 1, 1, 0, 1, 0] [] (codeOf Try.f4) (k4 N) m0 (h4_0 w0 w1 w2)) u10_0 u10_1 u10_2 u10_3 u10_4 := by
  intro N m0 u10_0 u10_1 u10_2 u10_3 u10_4
  have e : cutAt (c4 N) a4 [1, 1, 1, 0, 1, 0, 0, 1, 0, 0, 1, 1, 1, 1, 1, 0, 1, 0, 1, 1, 1, 1, 1, 0, 1] [m0] (codeOf Try.f4) (k4 N) (h4_10 u10_0 u10_1 u10_2 u10_3 u10_4) = m_ticketlinelaw16_PagePlays_l10_b (fun w0 w1 w2 => loopAt (c4 N) a4 [1, 1, 1, 0, 1, 0] [] (codeOf Try.f4) (k4 N) m0 (h4_0 w0 w1 w2)) (fun w0 w1 w2 w3 w4 w5 w6 => cutAt (c4 N) a4 [1, 1, 1, 0, 1, 0, 0, 1, 0, 0, 1, 1, 1, 1, 1, 0, 1, 0, 1, 1, 1, 1, 1, 0, 1, 1] [m0] (codeOf Try.f4) (k4 N) (h4_11 w0 w1 w2 w3 w4 w5 w6)) u10_0 u10_1 u10_2 u10_3 u10_4 := by kernel_rfl
  refine e.trans ?_
  have e11 : (fun w0 w1 w2 w3 w4 w5 w6 => cutAt (c4 N) a4 [1, 1, 1, 0, 1, 0, 0, 1, 0, 0, 1, 1, 1, 1, 1, 0, 1, 0, 1, 1, 1, 1, 1, 0, 1, 1] [m0] (codeOf Try.f4) (k4 N) (h4_11 w0 w1 w2 w3 w4 w5 w6)) = m_ticketlinelaw16_PagePlays_l11 N (fun w0 w1 w2 => loopAt (c4 N) a4 [1, 1, 1, 0, 1, 0] [] (codeOf Try.f4) (k4 N) m0 (h4_0 w0 w1 w2)) := by
    funext w0 w1 w2 w3 w4 w5 w6; exact t4_11 N m0 w0 w1 w2 w3 w4 w5 w6
  rw [e11]
  rfl
theorem t4_4 : ∀ (N : Nat) (m0 : Nat) (u4_0 : (List (Int × (Bool × (Int × (ByteArray × (ByteArray × Unit))))))) (u4_1 : Int) (u4_2 : Int) (u4_3 : Int) (u4_4 : (List Int)) (u4_5 : Int) (u4_6 : Bool) (u4_7 : Int) (u4_8 : ByteArray) (u4_9 : ByteArray) (u4_10 : (List Int)), cutAt (c4 N) a4 [1, 1, 1, 0, 1, 0, 0, 1, 0, 0, 1, 1, 1, 1, 1, 0, 1] [m0] (codeOf Try.f4) (k4 N) (h4_4 u4_0 u4_1 u4_2 u4_3 u4_4 u4_5 u4_6 u4_7 u4_8 u4_9 u4_10) = m_ticketlinelaw16_PagePlays_l4 N (fun w0 w1 w2 => loopAt (c4 N) a4 [1, 1, 1, 0, 1, 0] [] (codeOf Try.f4) (k4 N) m0 (h4_0 w0 w1 w2)) u4_0 u4_1 u4_2 u4_3 u4_4 u4_5 u4_6 u4_7 u4_8 u4_9 u4_10 := by
  intro N m0 u4_0 u4_1 u4_2 u4_3 u4_4 u4_5 u4_6 u4_7 u4_8 u4_9 u4_10
  have e : cutAt (c4 N) a4 [1, 1, 1, 0, 1, 0, 0, 1, 0, 0, 1, 1, 1, 1, 1, 0, 1] [m0] (codeOf Try.f4) (k4 N) (h4_4 u4_0 u4_1 u4_2 u4_3 u4_4 u4_5 u4_6 u4_7 u4_8 u4_9 u4_10) = m_ticketlinelaw16_PagePlays_l4_b (fun w0 w1 w2 => loopAt (c4 N) a4 [1, 1, 1, 0, 1, 0] [] (codeOf Try.f4) (k4 N) m0 (h4_0 w0 w1 w2)) (fun w0 w1 w2 w3 w4 w5 w6 w7 w8 w9 => cutAt (c4 N) a4 [1, 1, 1, 0, 1, 0, 0, 1, 0, 0, 1, 1, 1, 1, 1, 0, 1, 0, 1, 0, 1] [m0] (codeOf Try.f4) (k4 N) (h4_5 w0 w1 w2 w3 w4 w5 w6 w7 w8 w9)) (fun w0 w1 w2 w3 w4 => cutAt (c4 N) a4 [1, 1, 1, 0, 1, 0, 0, 1, 0, 0, 1, 1, 1, 1, 1, 1] [m0] (codeOf Try.f4) (k4 N) (h4_6 w0 w1 w2 w3 w4)) (fun w0 w1 w2 w3 w4 w5 w6 w7 w8 => cutAt (c4 N) a4 [1, 1, 1, 0, 1, 0, 0, 1, 0, 0, 1, 1, 1, 1, 1, 0, 1, 0, 1, 1, 1, 0, 1] [m0] (codeOf Try.f4) (k4 N) (h4_8 w0 w1 w2 w3 w4 w5 w6 w7 w8)) (fun w0 w1 w2 w3 w4 => cutAt (c4 N) a4 [1, 1, 1, 0, 1, 0, 0, 1, 0, 0, 1, 1, 1, 1, 1, 0, 1, 0, 1, 1, 1, 1, 1, 0, 1] [m0] (codeOf Try.f4) (k4 N) (h4_10 w0 w1 w2 w3 w4)) u4_0 u4_1 u4_2 u4_3 u4_4 u4_5 u4_6 u4_7 u4_8 u4_9 u4_10 := by kernel_rfl
  refine e.trans ?_
  have e5 : (fun w0 w1 w2 w3 w4 w5 w6 w7 w8 w9 => cutAt (c4 N) a4 [1, 1, 1, 0, 1, 0, 0, 1, 0, 0, 1, 1, 1, 1, 1, 0, 1, 0, 1, 0, 1] [m0] (codeOf Try.f4) (k4 N) (h4_5 w0 w1 w2 w3 w4 w5 w6 w7 w8 w9)) = m_ticketlinelaw16_PagePlays_l5 N (fun w0 w1 w2 => loopAt (c4 N) a4 [1, 1, 1, 0, 1, 0] [] (codeOf Try.f4) (k4 N) m0 (h4_0 w0 w1 w2)) := by
    funext w0 w1 w2 w3 w4 w5 w6 w7 w8 w9; exact t4_5 N m0 w0 w1 w2 w3 w4 w5 w6 w7 w8 w9
  rw [e5]
  have e6 : (fun w0 w1 w2 w3 w4 => cutAt (c4 N) a4 [1, 1, 1, 0, 1, 0, 0, 1, 0, 0, 1, 1, 1, 1, 1, 1] [m0] (codeOf Try.f4) (k4 N) (h4_6 w0 w1 w2 w3 w4)) = m_ticketlinelaw16_PagePlays_l6 N (fun w0 w1 w2 => loopAt (c4 N) a4 [1, 1, 1, 0, 1, 0] [] (codeOf Try.f4) (k4 N) m0 (h4_0 w0 w1 w2)) := by
    funext w0 w1 w2 w3 w4; exact t4_6 N m0 w0 w1 w2 w3 w4
  rw [e6]
  have e8 : (fun w0 w1 w2 w3 w4 w5 w6 w7 w8 => cutAt (c4 N) a4 [1, 1, 1, 0, 1, 0, 0, 1, 0, 0, 1, 1, 1, 1, 1, 0, 1, 0, 1, 1, 1, 0, 1] [m0] (codeOf Try.f4) (k4 N) (h4_8 w0 w1 w2 w3 w4 w5 w6 w7 w8)) = m_ticketlinelaw16_PagePlays_l8 N (fun w0 w1 w2 => loopAt (c4 N) a4 [1, 1, 1, 0, 1, 0] [] (codeOf Try.f4) (k4 N) m0 (h4_0 w0 w1 w2)) := by
    funext w0 w1 w2 w3 w4 w5 w6 w7 w8; exact t4_8 N m0 w0 w1 w2 w3 w4 w5 w6 w7 w8
  rw [e8]
  have e10 : (fun w0 w1 w2 w3 w4 => cutAt (c4 N) a4 [1, 1, 1, 0, 1, 0, 0, 1, 0, 0, 1, 1, 1, 1, 1, 0, 1, 0, 1, 1, 1, 1, 1, 0, 1] [m0] (codeOf Try.f4) (k4 N) (h4_10 w0 w1 w2 w3 w4)) = m_ticketlinelaw16_PagePlays_l10 N (fun w0 w1 w2 => loopAt (c4 N) a4 [1, 1, 1, 0, 1, 0] [] (codeOf Try.f4) (k4 N) m0 (h4_0 w0 w1 w2)) := by
    funext w0 w1 w2 w3 w4; exact t4_10 N m0 w0 w1 w2 w3 w4
  rw [e10]
  rfl
theorem t4_3 : ∀ (N : Nat) (m0 : Nat) (u3_0 : (List (Int × (Bool × (Int × (ByteArray × (ByteArray × Unit))))))) (u3_1 : Int) (u3_2 : Int) (u3_3 : (List Int)) (u3_4 : Int) (u3_5 : Bool) (u3_6 : Int) (u3_7 : ByteArray) (u3_8 : ByteArray) (u3_9 : (List Int)), cutAt (c4 N) a4 [1, 1, 1, 0, 1, 0, 0, 1, 0, 0, 1, 1, 1, 1, 1] [m0] (codeOf Try.f4) (k4 N) (h4_3 u3_0 u3_1 u3_2 u3_3 u3_4 u3_5 u3_6 u3_7 u3_8 u3_9) = m_ticketlinelaw16_PagePlays_l3 N (fun w0 w1 w2 => loopAt (c4 N) a4 [1, 1, 1, 0, 1, 0] [] (codeOf Try.f4) (k4 N) m0 (h4_0 w0 w1 w2)) u3_0 u3_1 u3_2 u3_3 u3_4 u3_5 u3_6 u3_7 u3_8 u3_9 := by
  intro N m0 u3_0 u3_1 u3_2 u3_3 u3_4 u3_5 u3_6 u3_7 u3_8 u3_9
  have e : cutAt (c4 N) a4 [1, 1, 1, 0, 1, 0, 0, 1, 0, 0, 1, 1, 1, 1, 1] [m0] (codeOf Try.f4) (k4 N) (h4_3 u3_0 u3_1 u3_2 u3_3 u3_4 u3_5 u3_6 u3_7 u3_8 u3_9) = m_ticketlinelaw16_PagePlays_l3_b (fun w0 w1 w2 => loopAt (c4 N) a4 [1, 1, 1, 0, 1, 0] [] (codeOf Try.f4) (k4 N) m0 (h4_0 w0 w1 w2)) (fun w0 w1 w2 w3 w4 w5 w6 w7 w8 w9 w10 => cutAt (c4 N) a4 [1, 1, 1, 0, 1, 0, 0, 1, 0, 0, 1, 1, 1, 1, 1, 0, 1] [m0] (codeOf Try.f4) (k4 N) (h4_4 w0 w1 w2 w3 w4 w5 w6 w7 w8 w9 w10)) u3_0 u3_1 u3_2 u3_3 u3_4 u3_5 u3_6 u3_7 u3_8 u3_9 := by kernel_rfl
  refine e.trans ?_
  have e4 : (fun w0 w1 w2 w3 w4 w5 w6 w7 w8 w9 w10 => cutAt (c4 N) a4 [1, 1, 1, 0, 1, 0, 0, 1, 0, 0, 1, 1, 1, 1, 1, 0, 1] [m0] (codeOf Try.f4) (k4 N) (h4_4 w0 w1 w2 w3 w4 w5 w6 w7 w8 w9 w10)) = m_ticketlinelaw16_PagePlays_l4 N (fun w0 w1 w2 => loopAt (c4 N) a4 [1, 1, 1, 0, 1, 0] [] (codeOf Try.f4) (k4 N) m0 (h4_0 w0 w1 w2)) := by
    funext w0 w1 w2 w3 w4 w5 w6 w7 w8 w9 w10; exact t4_4 N m0 w0 w1 w2 w3 w4 w5 w6 w7 w8 w9 w10
  rw [e4]
  rfl
theorem t4_2 : ∀ (N : Nat) (m0 : Nat) (u2_0 : (List (Int × (Bool × (Int × (ByteArray × (ByteArray × Unit))))))) (u2_1 : Int) (u2_2 : (List Int)) (u2_3 : Int) (u2_4 : Bool) (u2_5 : Int) (u2_6 : ByteArray) (u2_7 : ByteArray) (u2_8 : (List Int)), cutAt (c4 N) a4 [1, 1, 1, 0, 1, 0, 0, 1, 0, 0, 1, 1, 1, 1] [m0] (codeOf Try.f4) (k4 N) (h4_2 u2_0 u2_1 u2_2 u2_3 u2_4 u2_5 u2_6 u2_7 u2_8) = m_ticketlinelaw16_PagePlays_l2 N (fun w0 w1 w2 => loopAt (c4 N) a4 [1, 1, 1, 0, 1, 0] [] (codeOf Try.f4) (k4 N) m0 (h4_0 w0 w1 w2)) u2_0 u2_1 u2_2 u2_3 u2_4 u2_5 u2_6 u2_7 u2_8 := by
  intro N m0 u2_0 u2_1 u2_2 u2_3 u2_4 u2_5 u2_6 u2_7 u2_8
  have e : cutAt (c4 N) a4 [1, 1, 1, 0, 1, 0, 0, 1, 0, 0, 1, 1, 1, 1] [m0] (codeOf Try.f4) (k4 N) (h4_2 u2_0 u2_1 u2_2 u2_3 u2_4 u2_5 u2_6 u2_7 u2_8) = m_ticketlinelaw16_PagePlays_l2_b (fun w0 w1 w2 => loopAt (c4 N) a4 [1, 1, 1, 0, 1, 0] [] (codeOf Try.f4) (k4 N) m0 (h4_0 w0 w1 w2)) (fun w0 w1 w2 w3 w4 w5 w6 w7 w8 w9 => cutAt (c4 N) a4 [1, 1, 1, 0, 1, 0, 0, 1, 0, 0, 1, 1, 1, 1, 1] [m0] (codeOf Try.f4) (k4 N) (h4_3 w0 w1 w2 w3 w4 w5 w6 w7 w8 w9)) u2_0 u2_1 u2_2 u2_3 u2_4 u2_5 u2_6 u2_7 u2_8 := by kernel_rfl
  refine e.trans ?_
  have e3 : (fun w0 w1 w2 w3 w4 w5 w6 w7 w8 w9 => cutAt (c4 N) a4 [1, 1, 1, 0, 1, 0, 0, 1, 0, 0, 1, 1, 1, 1, 1] [m0] (codeOf Try.f4) (k4 N) (h4_3 w0 w1 w2 w3 w4 w5 w6 w7 w8 w9)) = m_ticketlinelaw16_PagePlays_l3 N (fun w0 w1 w2 => loopAt (c4 N) a4 [1, 1, 1, 0, 1, 0] [] (codeOf Try.f4) (k4 N) m0 (h4_0 w0 w1 w2)) := by
    funext w0 w1 w2 w3 w4 w5 w6 w7 w8 w9; exact t4_3 N m0 w0 w1 w2 w3 w4 w5 w6 w7 w8 w9
  rw [e3]
  rfl
theorem t4_1 : ∀ (N : Nat) (m0 : Nat) (u1_0 : (List (Int × (Bool × (Int × (ByteArray × (ByteArray × Unit))))))) (u1_1 : Int) (u1_2 : (List Int)) (u1_3 : Int) (u1_4 : Bool) (u1_5 : Int) (u1_6 : ByteArray) (u1_7 : ByteArray), cutAt (c4 N) a4 [1, 1, 1, 0, 1, 0, 0, 1, 0, 0, 1, 1, 1] [m0] (codeOf Try.f4) (k4 N) (h4_1 u1_0 u1_1 u1_2 u1_3 u1_4 u1_5 u1_6 u1_7) = m_ticketlinelaw16_PagePlays_l1 N (fun w0 w1 w2 => loopAt (c4 N) a4 [1, 1, 1, 0, 1, 0] [] (codeOf Try.f4) (k4 N) m0 (h4_0 w0 w1 w2)) u1_0 u1_1 u1_2 u1_3 u1_4 u1_5 u1_6 u1_7 := by
  intro N m0 u1_0 u1_1 u1_2 u1_3 u1_4 u1_5 u1_6 u1_7
  have e : cutAt (c4 N) a4 [1, 1, 1, 0, 1, 0, 0, 1, 0, 0, 1, 1, 1] [m0] (codeOf Try.f4) (k4 N) (h4_1 u1_0 u1_1 u1_2 u1_3 u1_4 u1_5 u1_6 u1_7) = m_ticketlinelaw16_PagePlays_l1_b (fun w0 w1 w2 => loopAt (c4 N) a4 [1, 1, 1, 0, 1, 0] [] (codeOf Try.f4) (k4 N) m0 (h4_0 w0 w1 w2)) (fun w0 w1 w2 w3 w4 w5 w6 w7 w8 => cutAt (c4 N) a4 [1, 1, 1, 0, 1, 0, 0, 1, 0, 0, 1, 1, 1, 1] [m0] (codeOf Try.f4) (k4 N) (h4_2 w0 w1 w2 w3 w4 w5 w6 w7 w8)) u1_0 u1_1 u1_2 u1_3 u1_4 u1_5 u1_6 u1_7 := by kernel_rfl
  refine e.trans ?_
  have e2 : (fun w0 w1 w2 w3 w4 w5 w6 w7 w8 => cutAt (c4 N) a4 [1, 1, 1, 0, 1, 0, 0, 1, 0, 0, 1, 1, 1, 1] [m0] (codeOf Try.f4) (k4 N) (h4_2 w0 w1 w2 w3 w4 w5 w6 w7 w8)) = m_ticketlinelaw16_PagePlays_l2 N (fun w0 w1 w2 => loopAt (c4 N) a4 [1, 1, 1, 0, 1, 0] [] (codeOf Try.f4) (k4 N) m0 (h4_0 w0 w1 w2)) := by
    funext w0 w1 w2 w3 w4 w5 w6 w7 w8; exact t4_2 N m0 w0 w1 w2 w3 w4 w5 w6 w7 w8
  rw [e2]
  rfl
theorem t4_0 : ∀ (N : Nat) (n : Nat) (u0_0 : (List (Int × (Bool × (Int × (ByteArray × (ByteArray × Unit))))))) (u0_1 : Int) (u0_2 : (List Int)), loopAt (c4 N) a4 [1, 1, 1, 0, 1, 0] [] (codeOf Try.f4) (k4 N) n (h4_0 u0_0 u0_1 u0_2) = m_ticketlinelaw16_PagePlays_l0 N n u0_0 u0_1 u0_2 := by
  intro N n
  induction n with
  | zero => intro u0_0 u0_1 u0_2; kernel_rfl
  | succ n ih =>
    intro u0_0 u0_1 u0_2
    have e : loopAt (c4 N) a4 [1, 1, 1, 0, 1, 0] [] (codeOf Try.f4) (k4 N) (n + 1) (h4_0 u0_0 u0_1 u0_2) = m_ticketlinelaw16_PagePlays_l0_b (fun w0 w1 w2 => loopAt (c4 N) a4 [1, 1, 1, 0, 1, 0] [] (codeOf Try.f4) (k4 N) n (h4_0 w0 w1 w2)) (fun w0 w1 w2 w3 w4 w5 w6 w7 => cutAt (c4 N) a4 [1, 1, 1, 0, 1, 0, 0, 1, 0, 0, 1, 1, 1] [n] (codeOf Try.f4) (k4 N) (h4_1 w0 w1 w2 w3 w4 w5 w6 w7)) u0_0 u0_1 u0_2 := by kernel_rfl
    refine e.trans ?_
    have e1 : (fun w0 w1 w2 w3 w4 w5 w6 w7 => cutAt (c4 N) a4 [1, 1, 1, 0, 1, 0, 0, 1, 0, 0, 1, 1, 1] [n] (codeOf Try.f4) (k4 N) (h4_1 w0 w1 w2 w3 w4 w5 w6 w7)) = m_ticketlinelaw16_PagePlays_l1 N (fun w0 w1 w2 => loopAt (c4 N) a4 [1, 1, 1, 0, 1, 0] [] (codeOf Try.f4) (k4 N) n (h4_0 w0 w1 w2)) := by
      funext w0 w1 w2 w3 w4 w5 w6 w7; exact t4_1 N n w0 w1 w2 w3 w4 w5 w6 w7
    rw [e1]
    have es : (fun w0 w1 w2 => loopAt (c4 N) a4 [1, 1, 1, 0, 1, 0] [] (codeOf Try.f4) (k4 N) n (h4_0 w0 w1 w2)) = m_ticketlinelaw16_PagePlays_l0 N n := by
      funext w0 w1 w2; exact ih w0 w1 w2
    rw [es]
    rw [m_ticketlinelaw16_PagePlays_l0]
theorem ew4 : ∀ (N : Nat) (x : g4.ps.den), evalFn (c4 N) an4 Try.f4 (codeOf Try.f4) g4 x (fun p => p.1.1) = m_ticketlinelaw16_PagePlays_a (m_ticketlinelaw16_PagePlays_l0 N N) x.1 x.2.1 := by
  intro N
  intro x
  obtain ⟨x0, x1, xu⟩ := x
  have e : evalFn (c4 N) an4 Try.f4 (codeOf Try.f4) g4 (x0, x1, xu) (fun p => p.1.1) = m_ticketlinelaw16_PagePlays_a (fun w0 w1 w2 => loopAt (c4 N) a4 [1, 1, 1, 0, 1, 0] [] (codeOf Try.f4) (k4 N) N (h4_0 w0 w1 w2)) x0 x1 := by kernel_rfl
  refine e.trans ?_
  have e0 : (fun w0 w1 w2 => loopAt (c4 N) a4 [1, 1, 1, 0, 1, 0] [] (codeOf Try.f4) (k4 N) N (h4_0 w0 w1 w2)) = m_ticketlinelaw16_PagePlays_l0 N N := by
    funext w0 w1 w2; exact t4_0 N N w0 w1 w2
  rw [e0]
theorem ev4 : ∀ x : g4.ps.den, evalFn (c4 FUEL) an4 Try.f4 (codeOf Try.f4) g4 x (fun p => p.1.1) = g4.m x := fun x => ew4 FUEL x
theorem meets4 : Meets Try.prog 4 g4 :=
  meets_of (C := c4 FUEL) (ann := an4) (mkC_ok (gs := [(10, g10), (12, g12), (13, g13), (14, g14), (15, g15), (16, g16), (17, g17), (18, g18), (19, g19), (20, g20), (21, g21)]) (is := []) (mt := mtL) tysOK elemOK ⟨meets10, meets12, meets13, meets14, meets15, meets16, meets17, meets18, meets19, meets20, meets21, trivial⟩ trivial mtOK FUEL) mixed Try.func4 (by kernel_rfl) (by kernel_rfl) (by kernel_rfl) (of_decide_eq_true (by kernel_rfl)) (fun p => p.1.1) (fun _ _ => ⟨rfl, rfl⟩) ev4
def c47 (N : Nat) : Cx := mkC tyL [] [] mtL N
def g47 : Sig := ⟨(.cons (.pure (.int .i64)) (.cons (.pure .str) (.cons (.pure .str) (.cons (.pure (.int .i64)) .nl)))), (.cons (.pure (.int .i64)) .nl), Int, fun x => m_ticketlineref16_Make x.1 x.2.1 x.2.2.1 x.2.2.2.1, fun _ y => (y, ()), fun _ y => ((), ((), ((), ((), ()))))⟩
def an47 : Nat → Ann := mkA []
theorem ev47 : ∀ x : g47.ps.den, evalFn (c47 FUEL) an47 Try.f47 (codeOf Try.f47) g47 x (fun p => p.1.1) = g47.m x := by
  intro x
  obtain ⟨x0, x1, x2, x3, xu⟩ := x
  show _ = _
  kernel_rfl
theorem meets47 : Meets Try.prog 47 g47 :=
  meets_of (C := c47 FUEL) (ann := an47) (mkC_ok (gs := []) (is := []) (mt := mtL) tysOK elemOK trivial trivial mtOK FUEL) mixed Try.func47 (by kernel_rfl) (by kernel_rfl) (by kernel_rfl) (of_decide_eq_true (by kernel_rfl)) (fun p => p.1.1) (fun _ _ => ⟨rfl, rfl⟩) ev47
def c22 (N : Nat) : Cx := mkC tyL [(27, g27), (33, g33), (36, g36), (41, g41), (47, g47)] [] mtL N
def g22 : Sig := ⟨(.cons (.pure (.int .i64)) (.cons (.pure .str) (.cons (.pure .str) (.cons (.pure (.int .i64)) (.cons (.pure (.sl (.pair .str (.pair .str .nl)))) .nl))))), (.cons (.pure (.arr 128 (.int .u64))) (.cons (.pure (.int .i64)) .nl)), ((List Int) × Int), fun x => m_ticketlineref16_Of x.1 x.2.1 x.2.2.1 x.2.2.2.1 x.2.2.2.2.1, fun _ y => (y.1, (y.2, ())), fun _ y => ((), ((), ((), ((), ((), ())))))⟩
def an22 : Nat → Ann := mkA [(5, ⟨[0, 1, 2, 3, 4, 10, 13], [], [10], false⟩), (17, ⟨[4, 10, 15, 16], [], [10, 15], false⟩)]
noncomputable def k22 (N : Nat) : Ex → St → Option ((List Int) × Int) := finK (c22 N) Try.f22 g22 (.cons .top (.cons .top (.cons .top (.cons .top (.cons .top .nl))))) (fun p => (p.1.1, p.1.2.1))
def a22 : Nat → Ann := annP [] an22
def h22_1 (u1_0 : (List (ByteArray × (ByteArray × Unit)))) (u1_1 : Int) (u1_2 : (List Int)) (u1_3 : (List Int)) : St := ⟨85, [(4, (.lst (.pair .str (.pair .str .nl)) u1_0)), (10, (.ref 10 [])), (15, (.ref 15 [])), (16, (.int .i64 u1_1))], [(10, (.arr (.int .u64) 128 u1_2)), (15, (.arr (.int .u64) 128 u1_3))]⟩
def h22_0 (u0_0 : Int) (u0_1 : ByteArray) (u0_2 : ByteArray) (u0_3 : Int) (u0_4 : (List (ByteArray × (ByteArray × Unit)))) (u0_5 : Int) (u0_6 : (List Int)) : St := ⟨85, [(0, (.int .i64 u0_0)), (1, (.str u0_1)), (2, (.str u0_2)), (3, (.int .i64 u0_3)), (4, (.lst (.pair .str (.pair .str .nl)) u0_4)), (10, (.ref 10 [])), (13, (.int .i64 u0_5))], [(10, (.arr (.int .u64) 128 u0_6))]⟩
theorem t22_1 : ∀ (N : Nat) (n : Nat) (u1_0 : (List (ByteArray × (ByteArray × Unit)))) (u1_1 : Int) (u1_2 : (List Int)) (u1_3 : (List Int)), loopAt (c22 N) a22 [1, 1, 1, 1, 1, 1, 0, 1, 0] [] (codeOf Try.f22) (k22 N) n (h22_1 u1_0 u1_1 u1_2 u1_3) = m_ticketlineref16_Of_l1 N n u1_0 u1_1 u1_2 u1_3 := by
  intro N n
  induction n with
  | zero => intro u1_0 u1_1 u1_2 u1_3; kernel_rfl
  | succ n ih =>
    intro u1_0 u1_1 u1_2 u1_3
    have e : loopAt (c22 N) a22 [1, 1, 1, 1, 1, 1, 0, 1, 0] [] (codeOf Try.f22) (k22 N) (n + 1) (h22_1 u1_0 u1_1 u1_2 u1_3) = m_ticketlineref16_Of_l1_b (fun w0 w1 w2 w3 => loopAt (c22 N) a22 [1, 1, 1, 1, 1, 1, 0, 1, 0] [] (codeOf Try.f22) (k22 N) n (h22_1 w0 w1 w2 w3)) u1_0 u1_1 u1_2 u1_3 := by kernel_rfl
    refine e.trans ?_
    have es : (fun w0 w1 w2 w3 => loopAt (c22 N) a22 [1, 1, 1, 1, 1, 1, 0, 1, 0] [] (codeOf Try.f22) (k22 N) n (h22_1 w0 w1 w2 w3)) = m_ticketlineref16_Of_l1 N n := by
      funext w0 w1 w2 w3; exact ih w0 w1 w2 w3
    rw [es]
    rw [m_ticketlineref16_Of_l1]
theorem t22_0 : ∀ (N : Nat) (n : Nat) (u0_0 : Int) (u0_1 : ByteArray) (u0_2 : ByteArray) (u0_3 : Int) (u0_4 : (List (ByteArray × (ByteArray × Unit)))) (u0_5 : Int) (u0_6 : (List Int)), loopAt (c22 N) a22 [1, 1, 0, 1, 0] [] (codeOf Try.f22) (k22 N) n (h22_0 u0_0 u0_1 u0_2 u0_3 u0_4 u0_5 u0_6) = m_ticketlineref16_Of_l0 N n u0_0 u0_1 u0_2 u0_3 u0_4 u0_5 u0_6 := by
  intro N n
  induction n with
  | zero => intro u0_0 u0_1 u0_2 u0_3 u0_4 u0_5 u0_6; kernel_rfl
  | succ n ih =>
    intro u0_0 u0_1 u0_2 u0_3 u0_4 u0_5 u0_6
    have e : loopAt (c22 N) a22 [1, 1, 0, 1, 0] [] (codeOf Try.f22) (k22 N) (n + 1) (h22_0 u0_0 u0_1 u0_2 u0_3 u0_4 u0_5 u0_6) = m_ticketlineref16_Of_l0_b (fun w0 w1 w2 w3 w4 w5 w6 => loopAt (c22 N) a22 [1, 1, 0, 1, 0] [] (codeOf Try.f22) (k22 N) n (h22_0 w0 w1 w2 w3 w4 w5 w6)) (fun w0 w1 w2 w3 => loopAt (c22 N) a22 [1, 1, 1, 1, 1, 1, 0, 1, 0] [] (codeOf Try.f22) (k22 N) N (h22_1 w0 w1 w2 w3)) u0_0 u0_1 u0_2 u0_3 u0_4 u0_5 u0_6 := by kernel_rfl
    refine e.trans ?_
    have e1 : (fun w0 w1 w2 w3 => loopAt (c22 N) a22 [1, 1, 1, 1, 1, 1, 0, 1, 0] [] (codeOf Try.f22) (k22 N) N (h22_1 w0 w1 w2 w3)) = m_ticketlineref16_Of_l1 N N := by
      funext w0 w1 w2 w3; exact t22_1 N N w0 w1 w2 w3
    rw [e1]
    have es : (fun w0 w1 w2 w3 w4 w5 w6 => loopAt (c22 N) a22 [1, 1, 0, 1, 0] [] (codeOf Try.f22) (k22 N) n (h22_0 w0 w1 w2 w3 w4 w5 w6)) = m_ticketlineref16_Of_l0 N n := by
      funext w0 w1 w2 w3 w4 w5 w6; exact ih w0 w1 w2 w3 w4 w5 w6
    rw [es]
    rw [m_ticketlineref16_Of_l0]
theorem ew22 : ∀ (N : Nat) (x : g22.ps.den), evalFn (c22 N) an22 Try.f22 (codeOf Try.f22) g22 x (fun p => (p.1.1, p.1.2.1)) = m_ticketlineref16_Of_a (m_ticketlineref16_Of_l0 N N) x.1 x.2.1 x.2.2.1 x.2.2.2.1 x.2.2.2.2.1 := by
  intro N
  intro x
  obtain ⟨x0, x1, x2, x3, x4, xu⟩ := x
  have e : evalFn (c22 N) an22 Try.f22 (codeOf Try.f22) g22 (x0, x1, x2, x3, x4, xu) (fun p => (p.1.1, p.1.2.1)) = m_ticketlineref16_Of_a (fun w0 w1 w2 w3 w4 w5 w6 => loopAt (c22 N) a22 [1, 1, 0, 1, 0] [] (codeOf Try.f22) (k22 N) N (h22_0 w0 w1 w2 w3 w4 w5 w6)) x0 x1 x2 x3 x4 := by kernel_rfl
  refine e.trans ?_
  have e0 : (fun w0 w1 w2 w3 w4 w5 w6 => loopAt (c22 N) a22 [1, 1, 0, 1, 0] [] (codeOf Try.f22) (k22 N) N (h22_0 w0 w1 w2 w3 w4 w5 w6)) = m_ticketlineref16_Of_l0 N N := by
    funext w0 w1 w2 w3 w4 w5 w6; exact t22_0 N N w0 w1 w2 w3 w4 w5 w6
  rw [e0]
theorem ev22 : ∀ x : g22.ps.den, evalFn (c22 FUEL) an22 Try.f22 (codeOf Try.f22) g22 x (fun p => (p.1.1, p.1.2.1)) = g22.m x := fun x => ew22 FUEL x
theorem meets22 : Meets Try.prog 22 g22 :=
  meets_of (C := c22 FUEL) (ann := an22) (mkC_ok (gs := [(27, g27), (33, g33), (36, g36), (41, g41), (47, g47)]) (is := []) (mt := mtL) tysOK elemOK ⟨meets27, meets33, meets36, meets41, meets47, trivial⟩ trivial mtOK FUEL) mixed Try.func22 (by kernel_rfl) (by kernel_rfl) (by kernel_rfl) (of_decide_eq_true (by kernel_rfl)) (fun p => (p.1.1, p.1.2.1)) (fun _ _ => ⟨rfl, rfl⟩) ev22
def c23 (N : Nat) : Cx := mkC tyL [(37, g37)] [] mtL N
def g23 : Sig := ⟨(.cons (.pure (.int .i64)) (.cons (.pure .str) (.cons (.pure .str) (.cons (.pure (.int .i64)) (.cons (.pure (.sl (.pair .str (.pair .str .nl)))) (.cons (.pure (.arr 128 (.int .u64))) (.cons (.pure (.int .i64)) .nl))))))), (.cons (.pure .bool) .nl), Bool, fun x => m_ticketlinelaw16_made x.1 x.2.1 x.2.2.1 x.2.2.2.1 x.2.2.2.2.1 x.2.2.2.2.2.1 x.2.2.2.2.2.2.1, fun _ y => (y, ()), fun _ y => ((), ((), ((), ((), ((), ((), ((), ())))))))⟩
def an23 : Nat → Ann := mkA []
theorem ev23 : ∀ x : g23.ps.den, evalFn (c23 FUEL) an23 Try.f23 (codeOf Try.f23) g23 x (fun p => p.1.1) = g23.m x := by
  intro x
  obtain ⟨x0, x1, x2, x3, x4, x5, x6, xu⟩ := x
  show _ = _
  kernel_rfl
theorem meets23 : Meets Try.prog 23 g23 :=
  meets_of (C := c23 FUEL) (ann := an23) (mkC_ok (gs := [(37, g37)]) (is := []) (mt := mtL) tysOK elemOK ⟨meets37, trivial⟩ trivial mtOK FUEL) mixed Try.func23 (by kernel_rfl) (by kernel_rfl) (by kernel_rfl) (of_decide_eq_true (by kernel_rfl)) (fun p => p.1.1) (fun _ _ => ⟨rfl, rfl⟩) ev23
def c24 (N : Nat) : Cx := mkC tyL [] [] mtL N
def g24 : Sig := ⟨(.cons (.pure (.sl (.pair .str (.pair .str .nl)))) (.cons (.pure (.sl (.pair .str (.pair .str .nl)))) .nl)), (.cons (.pure .bool) .nl), Bool, fun x => m_ticketlineref14_Same x.1 x.2.1, fun _ y => (y, ()), fun _ y => ((), ((), ()))⟩
def an24 : Nat → Ann := mkA [(4, ⟨[0, 1, 5], [], [], false⟩)]
noncomputable def k24 (N : Nat) : Ex → St → Option Bool := finK (c24 N) Try.f24 g24 (.cons .top (.cons .top .nl)) (fun p => p.1.1)
def a24 : Nat → Ann := annP [] an24
def h24_0 (u0_0 : (List (ByteArray × (ByteArray × Unit)))) (u0_1 : (List (ByteArray × (ByteArray × Unit)))) (u0_2 : Int) : St := ⟨26, [(0, (.lst (.pair .str (.pair .str .nl)) u0_0)), (1, (.lst (.pair .str (.pair .str .nl)) u0_1)), (5, (.int .i64 u0_2))], []⟩
theorem t24_0 : ∀ (N : Nat) (n : Nat) (u0_0 : (List (ByteArray × (ByteArray × Unit)))) (u0_1 : (List (ByteArray × (ByteArray × Unit)))) (u0_2 : Int), loopAt (c24 N) a24 [1, 1, 0, 1, 0] [] (codeOf Try.f24) (k24 N) n (h24_0 u0_0 u0_1 u0_2) = m_ticketlineref14_Same_l0 N n u0_0 u0_1 u0_2 := by
  intro N n
  induction n with
  | zero => intro u0_0 u0_1 u0_2; kernel_rfl
  | succ n ih =>
    intro u0_0 u0_1 u0_2
    have e : loopAt (c24 N) a24 [1, 1, 0, 1, 0] [] (codeOf Try.f24) (k24 N) (n + 1) (h24_0 u0_0 u0_1 u0_2) = m_ticketlineref14_Same_l0_b (fun w0 w1 w2 => loopAt (c24 N) a24 [1, 1, 0, 1, 0] [] (codeOf Try.f24) (k24 N) n (h24_0 w0 w1 w2)) u0_0 u0_1 u0_2 := by kernel_rfl
    refine e.trans ?_
    have es : (fun w0 w1 w2 => loopAt (c24 N) a24 [1, 1, 0, 1, 0] [] (codeOf Try.f24) (k24 N) n (h24_0 w0 w1 w2)) = m_ticketlineref14_Same_l0 N n := by
      funext w0 w1 w2; exact ih w0 w1 w2
    rw [es]
    rw [m_ticketlineref14_Same_l0]
theorem ew24 : ∀ (N : Nat) (x : g24.ps.den), evalFn (c24 N) an24 Try.f24 (codeOf Try.f24) g24 x (fun p => p.1.1) = m_ticketlineref14_Same_a (m_ticketlineref14_Same_l0 N N) x.1 x.2.1 := by
  intro N
  intro x
  obtain ⟨x0, x1, xu⟩ := x
  have e : evalFn (c24 N) an24 Try.f24 (codeOf Try.f24) g24 (x0, x1, xu) (fun p => p.1.1) = m_ticketlineref14_Same_a (fun w0 w1 w2 => loopAt (c24 N) a24 [1, 1, 0, 1, 0] [] (codeOf Try.f24) (k24 N) N (h24_0 w0 w1 w2)) x0 x1 := by kernel_rfl
  refine e.trans ?_
  have e0 : (fun w0 w1 w2 => loopAt (c24 N) a24 [1, 1, 0, 1, 0] [] (codeOf Try.f24) (k24 N) N (h24_0 w0 w1 w2)) = m_ticketlineref14_Same_l0 N N := by
    funext w0 w1 w2; exact t24_0 N N w0 w1 w2
  rw [e0]
theorem ev24 : ∀ x : g24.ps.den, evalFn (c24 FUEL) an24 Try.f24 (codeOf Try.f24) g24 x (fun p => p.1.1) = g24.m x := fun x => ew24 FUEL x
theorem meets24 : Meets Try.prog 24 g24 :=
  meets_of (C := c24 FUEL) (ann := an24) (mkC_ok (gs := []) (is := []) (mt := mtL) tysOK elemOK trivial trivial mtOK FUEL) mixed Try.func24 (by kernel_rfl) (by kernel_rfl) (by kernel_rfl) (of_decide_eq_true (by kernel_rfl)) (fun p => p.1.1) (fun _ _ => ⟨rfl, rfl⟩) ev24
def c5 (N : Nat) : Cx := mkC tyL [(10, g10), (22, g22), (23, g23), (24, g24)] [] mtL N
def g5 : Sig := ⟨(.cons (.pure (.int .i64)) (.cons (.pure .str) (.cons (.pure .str) (.cons (.pure (.int .i64)) (.cons (.pure (.sl (.pair .str (.pair .str .nl)))) .nl))))), (.cons (.pure .bool) .nl), Bool, fun x => m_ticketlinelaw16_PageOf x.1 x.2.1 x.2.2.1 x.2.2.2.1 x.2.2.2.2.1, fun _ y => (y, ()), fun _ y => ((), ((), ((), ((), ((), ())))))⟩
def an5 : Nat → Ann := mkA [(4, ⟨[0, 1, 2, 3, 4, 11], [], [], false⟩)]
noncomputable def k5 (N : Nat) : Ex → St → Option Bool := finK (c5 N) Try.f5 g5 (.cons .top (.cons .top (.cons .top (.cons .top (.cons .top .nl))))) (fun p => p.1.1)
def a5 : Nat → Ann := annP [] an5
def h5_0 (u0_0 : Int) (u0_1 : ByteArray) (u0_2 : ByteArray) (u0_3 : Int) (u0_4 : (List (ByteArray × (ByteArray × Unit)))) (u0_5 : Int) : St := ⟨79, [(0, (.int .i64 u0_0)), (1, (.str u0_1)), (2, (.str u0_2)), (3, (.int .i64 u0_3)), (4, (.lst (.pair .str (.pair .str .nl)) u0_4)), (11, (.int .i64 u0_5))], []⟩
theorem t5_0 : ∀ (N : Nat) (n : Nat) (u0_0 : Int) (u0_1 : ByteArray) (u0_2 : ByteArray) (u0_3 : Int) (u0_4 : (List (ByteArray × (ByteArray × Unit)))) (u0_5 : Int), loopAt (c5 N) a5 [1, 1, 0, 1, 0] [] (codeOf Try.f5) (k5 N) n (h5_0 u0_0 u0_1 u0_2 u0_3 u0_4 u0_5) = m_ticketlinelaw16_PageOf_l0 N n u0_0 u0_1 u0_2 u0_3 u0_4 u0_5 := by
  intro N n
  induction n with
  | zero => intro u0_0 u0_1 u0_2 u0_3 u0_4 u0_5; kernel_rfl
  | succ n ih =>
    intro u0_0 u0_1 u0_2 u0_3 u0_4 u0_5
    have e : loopAt (c5 N) a5 [1, 1, 0, 1, 0] [] (codeOf Try.f5) (k5 N) (n + 1) (h5_0 u0_0 u0_1 u0_2 u0_3 u0_4 u0_5) = m_ticketlinelaw16_PageOf_l0_b (fun w0 w1 w2 w3 w4 w5 => loopAt (c5 N) a5 [1, 1, 0, 1, 0] [] (codeOf Try.f5) (k5 N) n (h5_0 w0 w1 w2 w3 w4 w5)) u0_0 u0_1 u0_2 u0_3 u0_4 u0_5 := by kernel_rfl
    refine e.trans ?_
    have es : (fun w0 w1 w2 w3 w4 w5 => loopAt (c5 N) a5 [1, 1, 0, 1, 0] [] (codeOf Try.f5) (k5 N) n (h5_0 w0 w1 w2 w3 w4 w5)) = m_ticketlinelaw16_PageOf_l0 N n := by
      funext w0 w1 w2 w3 w4 w5; exact ih w0 w1 w2 w3 w4 w5
    rw [es]
    rw [m_ticketlinelaw16_PageOf_l0]
theorem ew5 : ∀ (N : Nat) (x : g5.ps.den), evalFn (c5 N) an5 Try.f5 (codeOf Try.f5) g5 x (fun p => p.1.1) = m_ticketlinelaw16_PageOf_a (m_ticketlinelaw16_PageOf_l0 N N) x.1 x.2.1 x.2.2.1 x.2.2.2.1 x.2.2.2.2.1 := by
  intro N
  intro x
  obtain ⟨x0, x1, x2, x3, x4, xu⟩ := x
  have e : evalFn (c5 N) an5 Try.f5 (codeOf Try.f5) g5 (x0, x1, x2, x3, x4, xu) (fun p => p.1.1) = m_ticketlinelaw16_PageOf_a (fun w0 w1 w2 w3 w4 w5 => loopAt (c5 N) a5 [1, 1, 0, 1, 0] [] (codeOf Try.f5) (k5 N) N (h5_0 w0 w1 w2 w3 w4 w5)) x0 x1 x2 x3 x4 := by kernel_rfl
  refine e.trans ?_
  have e0 : (fun w0 w1 w2 w3 w4 w5 => loopAt (c5 N) a5 [1, 1, 0, 1, 0] [] (codeOf Try.f5) (k5 N) N (h5_0 w0 w1 w2 w3 w4 w5)) = m_ticketlinelaw16_PageOf_l0 N N := by
    funext w0 w1 w2 w3 w4 w5; exact t5_0 N N w0 w1 w2 w3 w4 w5
  rw [e0]
theorem ev5 : ∀ x : g5.ps.den, evalFn (c5 FUEL) an5 Try.f5 (codeOf Try.f5) g5 x (fun p => p.1.1) = g5.m x := fun x => ew5 FUEL x
theorem meets5 : Meets Try.prog 5 g5 :=
  meets_of (C := c5 FUEL) (ann := an5) (mkC_ok (gs := [(10, g10), (22, g22), (23, g23), (24, g24)]) (is := []) (mt := mtL) tysOK elemOK ⟨meets10, meets22, meets23, meets24, trivial⟩ trivial mtOK FUEL) mixed Try.func5 (by kernel_rfl) (by kernel_rfl) (by kernel_rfl) (of_decide_eq_true (by kernel_rfl)) (fun p => p.1.1) (fun _ _ => ⟨rfl, rfl⟩) ev5
def c6 (N : Nat) : Cx := mkC tyL [(10, g10), (25, g25), (26, g26)] [] mtL N
def g6 : Sig := ⟨(.cons (.pure (.int .i64)) .nl), (.cons (.pure .bool) .nl), Bool, fun x => m_ticketlinelaw16_PageNumbers x.1, fun _ y => (y, ()), fun _ y => ((), ())⟩
def an6 : Nat → Ann := mkA []
theorem ev6 : ∀ x : g6.ps.den, evalFn (c6 FUEL) an6 Try.f6 (codeOf Try.f6) g6 x (fun p => p.1.1) = g6.m x := by
  intro x
  obtain ⟨x0, xu⟩ := x
  show _ = _
  kernel_rfl
theorem meets6 : Meets Try.prog 6 g6 :=
  meets_of (C := c6 FUEL) (ann := an6) (mkC_ok (gs := [(10, g10), (25, g25), (26, g26)]) (is := []) (mt := mtL) tysOK elemOK ⟨meets10, meets25, meets26, trivial⟩ trivial mtOK FUEL) mixed Try.func6 (by kernel_rfl) (by kernel_rfl) (by kernel_rfl) (of_decide_eq_true (by kernel_rfl)) (fun p => p.1.1) (fun _ _ => ⟨rfl, rfl⟩) ev6
def c7 (N : Nat) : Cx := mkC tyL [(10, g10), (21, g21), (27, g27), (28, g28), (29, g29), (30, g30)] [] mtL N
def g7 : Sig := ⟨(.cons (.pure (.int .u8)) (.cons (.pure (.int .u8)) (.cons (.pure .bool) .nl))), (.cons (.pure .bool) .nl), Bool, fun x => m_ticketlinelaw16_PageFills x.1 x.2.1 x.2.2.1, fun _ y => (y, ()), fun _ y => ((), ((), ((), ())))⟩
def an7 : Nat → Ann := mkA [(8, ⟨[1, 2, 7, 8, 10, 12], [(11, .str)], [7], false⟩), (19, ⟨[2, 7, 8, 11, 16], [], [7, 300011], false⟩)]
noncomputable def k7 (N : Nat) : Ex → St → Option Bool := finK (c7 N) Try.f7 g7 (.cons .top (.cons .top (.cons .top .nl))) (fun p => p.1.1)
def a7 : Nat → Ann := annP [] an7
def h7_1 (u1_0 : Bool) (u1_1 : ByteArray) (u1_2 : Int) (u1_3 : (List Int)) (u1_4 : (List ByteArray)) : St := ⟨160, [(2, (.bool u1_0)), (7, (.ref 7 [])), (8, (.str u1_1)), (11, (.full 300011)), (16, (.int .i64 u1_2))], [(7, (.arr (.int .u64) 128 u1_3)), (300011, (.bk .str u1_4))]⟩
def h7_0 (u0_0 : Int) (u0_1 : Bool) (u0_2 : ByteArray) (u0_3 : Int) (u0_4 : Int) (u0_5 : (List Int)) (u0_6 : (List ByteArray)) : St := ⟨160, [(11, .full 300011), (1, (.int .u8 u0_0)), (2, (.bool u0_1)), (7, (.ref 7 [])), (8, (.str u0_2)), (10, (.int .i64 u0_3)), (12, (.int .i64 u0_4))], [(7, (.arr (.int .u64) 128 u0_5)), (300011, (.bk .str u0_6))]⟩
theorem t7_1 : ∀ (N : Nat) (n : Nat) (u1_0 : Bool) (u1_1 : ByteArray) (u1_2 : Int) (u1_3 : (List Int)) (u1_4 : (List ByteArray)), loopAt (c7 N) a7 [1, 1, 1, 1, 1, 1, 1, 0, 1, 0] [] (codeOf Try.f7) (k7 N) n (h7_1 u1_0 u1_1 u1_2 u1_3 u1_4) = m_ticketlinelaw16_PageFills_l1 N n u1_0 u1_1 u1_2 u1_3 u1_4 := by
  intro N n
  induction n with
  | zero => intro u1_0 u1_1 u1_2 u1_3 u1_4; kernel_rfl
  | succ n ih =>
    intro u1_0 u1_1 u1_2 u1_3 u1_4
    have e : loopAt (c7 N) a7 [1, 1, 1, 1, 1, 1, 1, 0, 1, 0] [] (codeOf Try.f7) (k7 N) (n + 1) (h7_1 u1_0 u1_1 u1_2 u1_3 u1_4) = m_ticketlinelaw16_PageFills_l1_b (fun w0 w1 w2 w3 w4 => loopAt (c7 N) a7 [1, 1, 1, 1, 1, 1, 1, 0, 1, 0] [] (codeOf Try.f7) (k7 N) n (h7_1 w0 w1 w2 w3 w4)) u1_0 u1_1 u1_2 u1_3 u1_4 := by kernel_rfl
    refine e.trans ?_
    have es : (fun w0 w1 w2 w3 w4 => loopAt (c7 N) a7 [1, 1, 1, 1, 1, 1, 1, 0, 1, 0] [] (codeOf Try.f7) (k7 N) n (h7_1 w0 w1 w2 w3 w4)) = m_ticketlinelaw16_PageFills_l1 N n := by
      funext w0 w1 w2 w3 w4; exact ih w0 w1 w2 w3 w4
    rw [es]
    rw [m_ticketlinelaw16_PageFills_l1]
theorem t7_0 : ∀ (N : Nat) (n : Nat) (u0_0 : Int) (u0_1 : Bool) (u0_2 : ByteArray) (u0_3 : Int) (u0_4 : Int) (u0_5 : (List Int)) (u0_6 : (List ByteArray)), loopAt (c7 N) a7 [1, 1, 1, 1, 1, 1, 0, 1, 0] [] (codeOf Try.f7) (k7 N) n (h7_0 u0_0 u0_1 u0_2 u0_3 u0_4 u0_5 u0_6) = m_ticketlinelaw16_PageFills_l0 N n u0_0 u0_1 u0_2 u0_3 u0_4 u0_5 u0_6 := by
  intro N n
  induction n with
  | zero => intro u0_0 u0_1 u0_2 u0_3 u0_4 u0_5 u0_6; kernel_rfl
  | succ n ih =>
    intro u0_0 u0_1 u0_2 u0_3 u0_4 u0_5 u0_6
    have e : loopAt (c7 N) a7 [1, 1, 1, 1, 1, 1, 0, 1, 0] [] (codeOf Try.f7) (k7 N) (n + 1) (h7_0 u0_0 u0_1 u0_2 u0_3 u0_4 u0_5 u0_6) = m_ticketlinelaw16_PageFills_l0_b (fun w0 w1 w2 w3 w4 w5 w6 => loopAt (c7 N) a7 [1, 1, 1, 1, 1, 1, 0, 1, 0] [] (codeOf Try.f7) (k7 N) n (h7_0 w0 w1 w2 w3 w4 w5 w6)) (fun w0 w1 w2 w3 w4 => loopAt (c7 N) a7 [1, 1, 1, 1, 1, 1, 1, 0, 1, 0] [] (codeOf Try.f7) (k7 N) N (h7_1 w0 w1 w2 w3 w4)) u0_0 u0_1 u0_2 u0_3 u0_4 u0_5 u0_6 := by kernel_rfl
    refine e.trans ?_
    have e1 : (fun w0 w1 w2 w3 w4 => loopAt (c7 N) a7 [1, 1, 1, 1, 1, 1, 1, 0, 1, 0] [] (codeOf Try.f7) (k7 N) N (h7_1 w0 w1 w2 w3 w4)) = m_ticketlinelaw16_PageFills_l1 N N := by
      funext w0 w1 w2 w3 w4; exact t7_1 N N w0 w1 w2 w3 w4
    rw [e1]
    have es : (fun w0 w1 w2 w3 w4 w5 w6 => loopAt (c7 N) a7 [1, 1, 1, 1, 1, 1, 0, 1, 0] [] (codeOf Try.f7) (k7 N) n (h7_0 w0 w1 w2 w3 w4 w5 w6)) = m_ticketlinelaw16_PageFills_l0 N n := by
      funext w0 w1 w2 w3 w4 w5 w6; exact ih w0 w1 w2 w3 w4 w5 w6
    rw [es]
    rw [m_ticketlinelaw16_PageFills_l0]
theorem ew7 : ∀ (N : Nat) (x : g7.ps.den), evalFn (c7 N) an7 Try.f7 (codeOf Try.f7) g7 x (fun p => p.1.1) = m_ticketlinelaw16_PageFills_a (m_ticketlinelaw16_PageFills_l0 N N) x.1 x.2.1 x.2.2.1 := by
  intro N
  intro x
  obtain ⟨x0, x1, x2, xu⟩ := x
  have e : evalFn (c7 N) an7 Try.f7 (codeOf Try.f7) g7 (x0, x1, x2, xu) (fun p => p.1.1) = m_ticketlinelaw16_PageFills_a (fun w0 w1 w2 w3 w4 w5 w6 => loopAt (c7 N) a7 [1, 1, 1, 1, 1, 1, 0, 1, 0] [] (codeOf Try.f7) (k7 N) N (h7_0 w0 w1 w2 w3 w4 w5 w6)) x0 x1 x2 := by kernel_rfl
  refine e.trans ?_
  have e0 : (fun w0 w1 w2 w3 w4 w5 w6 => loopAt (c7 N) a7 [1, 1, 1, 1, 1, 1, 0, 1, 0] [] (codeOf Try.f7) (k7 N) N (h7_0 w0 w1 w2 w3 w4 w5 w6)) = m_ticketlinelaw16_PageFills_l0 N N := by
    funext w0 w1 w2 w3 w4 w5 w6; exact t7_0 N N w0 w1 w2 w3 w4 w5 w6
  rw [e0]
theorem ev7 : ∀ x : g7.ps.den, evalFn (c7 FUEL) an7 Try.f7 (codeOf Try.f7) g7 x (fun p => p.1.1) = g7.m x := fun x => ew7 FUEL x
theorem meets7 : Meets Try.prog 7 g7 :=
  meets_of (C := c7 FUEL) (ann := an7) (mkC_ok (gs := [(10, g10), (21, g21), (27, g27), (28, g28), (29, g29), (30, g30)]) (is := []) (mt := mtL) tysOK elemOK ⟨meets10, meets21, meets27, meets28, meets29, meets30, trivial⟩ trivial mtOK FUEL) mixed Try.func7 (by kernel_rfl) (by kernel_rfl) (by kernel_rfl) (of_decide_eq_true (by kernel_rfl)) (fun p => p.1.1) (fun _ _ => ⟨rfl, rfl⟩) ev7
def c8 (N : Nat) : Cx := mkC tyL [(10, g10), (12, g12), (13, g13), (14, g14), (21, g21), (24, g24), (29, g29), (30, g30), (31, g31), (32, g32), (33, g33), (34, g34)] [] mtL N
def g8 : Sig := ⟨(.cons (.pure (.pair (.int .i64) (.pair (.int .i64) (.pair .str (.pair .str (.pair (.sl (.pair .str (.pair .str .nl))) (.pair (.sl (.int .u8)) (.pair (.sl (.pair (.int .u8) (.pair (.int .u64) .nl))) .nl)))))))) (.cons (.pure (.sl (.pair (.int .i64) (.pair .bool (.pair (.int .u8) (.pair .str (.pair .str .nl))))))) .nl)), (.cons (.pure .bool) .nl), Bool, fun x => m_ticketlinelaw16_PageHolds x.1 x.2.1, fun _ y => (y, ()), fun _ y => ((), ((), ()))⟩
def an8 : Nat → Ann := mkA [(6, ⟨[1, 5, 8], [(7, (.pair .str (.pair .str .nl)))], [5], false⟩), (1000013, ⟨[1, 5, 7, 8, 9], [], [5, 300007, 9], true⟩), (1000014, ⟨[1, 5, 7, 8, 9, 10, 11], [], [5, 300007, 9], true⟩), (1000015, ⟨[1, 5, 7, 8, 9, 10, 11, 12], [], [5, 300007, 9], true⟩), (1000016, ⟨[1, 5, 7, 8, 9, 10, 11, 12, 13], [], [5, 300007, 9, 13], true⟩), (1000017, ⟨[1, 5, 7, 8, 9, 10, 11, 12, 13], [], [5, 300007, 9, 13], true⟩), (1000022, ⟨[1, 5, 7, 8, 9, 10, 11, 12, 13, 96], [], [5, 300007, 9, 13], true⟩), (1000025, ⟨[1, 5, 7, 8, 9, 10, 11, 12, 13], [], [5, 300007, 9, 132, 13], true⟩), (1000028, ⟨[1, 5, 7, 8, 9, 11, 13], [(12, (.pair .str (.pair .str .nl)))], [5, 300007, 9, 13], true⟩), (1000031, ⟨[1, 5, 7, 8, 9, 11, 12, 13, 14], [], [5, 300007, 9, 300012, 13], true⟩), (1000032, ⟨[1, 5, 7, 8, 9, 11, 12, 13, 14, 15], [], [5, 300007, 9, 300012, 13], true⟩), (1000036, ⟨[1, 5, 7, 8, 12, 13, 14, 15], [], [5, 300007, 300012, 13], true⟩), (1000007, ⟨[1, 5, 7, 8], [], [5, 300007], true⟩), (1000046, ⟨[1, 5, 8, 13], [(12, (.pair .str (.pair .str .nl)))], [5, 13], true⟩), (1000047, ⟨[1, 5, 7, 8, 13], [], [5, 300012, 13], true⟩), (1000049, ⟨[1, 5, 7, 8, 13], [], [5, 300012, 13], true⟩), (1000050, ⟨[1, 5, 7, 8, 13, 17], [], [5, 300012, 13], true⟩), (50, ⟨[1, 5, 8, 13, 17], [(7, (.pair .str (.pair .str .nl)))], [5, 13], false⟩), (1000051, ⟨[1, 5, 7, 8, 13, 17], [], [5, 300007, 13], true⟩), (1000040, ⟨[1, 5, 7, 8, 9, 10, 11, 12, 13], [], [5, 300007, 9, 13], true⟩), (1000041, ⟨[1, 5, 7, 8, 10, 11, 12, 13, 14, 16], [], [5, 300007, 13], true⟩), (1000043, ⟨[1, 5, 7, 8, 10, 11, 12, 13, 14], [], [5, 300007, 13], true⟩), (1000019, ⟨[1, 5, 7, 8, 12, 13], [], [5, 300007, 13], true⟩), (1000020, ⟨[1, 5, 7, 8, 12, 13, 14], [], [5, 300007, 13], true⟩)]
noncomputable def k8 (N : Nat) : Ex → St → Option Bool := finK (c8 N) Try.f8 g8 (.cons .top (.cons .top .nl)) (fun p => p.1.1)
def a8 : Nat → Ann := annP [] an8
def h8_12 (u12_0 : (List (Int × (Bool × (Int × (ByteArray × (ByteArray × Unit))))))) (u12_1 : Int) (u12_2 : (List Int)) (u12_3 : (List (ByteArray × (ByteArray × Unit)))) : St := ⟨264, [(1, (.lst (.pair (.int .i64) (.pair .bool (.pair (.int .u8) (.pair .str (.pair .str .nl))))) u12_0)), (5, (.ref 5 [])), (7, (.full 300007)), (8, (.int .i64 u12_1))], [(5, (.arr (.int .u64) 128 u12_2)), (300007, (.bk (.pair .str (.pair .str .nl)) u12_3))]⟩
def h8_18 (u18_0 : (List (Int × (Bool × (Int × (ByteArray × (ByteArray × Unit))))))) (u18_1 : Int) (u18_2 : Int) (u18_3 : (List Int)) (u18_4 : (List (ByteArray × (ByteArray × Unit)))) (u18_5 : (List Int)) : St := ⟨264, [(1, (.lst (.pair (.int .i64) (.pair .bool (.pair (.int .u8) (.pair .str (.pair .str .nl))))) u18_0)), (5, (.ref 5 [])), (7, (.full 300007)), (8, (.int .i64 u18_1)), (13, (.ref 13 [])), (17, (.int .i64 u18_2))], [(5, (.arr (.int .u64) 128 u18_3)), (300007, (.bk (.pair .str (.pair .str .nl)) u18_4)), (13, (.arr (.int .u64) 128 u18_5))]⟩
def h8_17 (u17_0 : (List (Int × (Bool × (Int × (ByteArray × (ByteArray × Unit))))))) (u17_1 : Int) (u17_2 : Int) (u17_3 : (List Int)) (u17_4 : (List Int)) (u17_5 : (List (ByteArray × (ByteArray × Unit)))) : St := ⟨264, [(7, .full 300007), (1, (.lst (.pair (.int .i64) (.pair .bool (.pair (.int .u8) (.pair .str (.pair .str .nl))))) u17_0)), (5, (.ref 5 [])), (8, (.int .i64 u17_1)), (13, (.ref 13 [])), (17, (.int .i64 u17_2))], [(5, (.arr (.int .u64) 128 u17_3)), (13, (.arr (.int .u64) 128 u17_4)), (300007, (.bk (.pair .str (.pair .str .nl)) u17_5))]⟩
def h8_16 (u16_0 : (List (Int × (Bool × (Int × (ByteArray × (ByteArray × Unit))))))) (u16_1 : Int) (u16_2 : Int) (u16_3 : (List Int)) (u16_4 : (List (ByteArray × (ByteArray × Unit)))) (u16_5 : (List Int)) : St := ⟨264, [(1, (.lst (.pair (.int .i64) (.pair .bool (.pair (.int .u8) (.pair .str (.pair .str .nl))))) u16_0)), (5, (.ref 5 [])), (7, (.full 300012)), (8, (.int .i64 u16_1)), (13, (.ref 13 [])), (17, (.int .i64 u16_2))], [(5, (.arr (.int .u64) 128 u16_3)), (300012, (.bk (.pair .str (.pair .str .nl)) u16_4)), (13, (.arr (.int .u64) 128 u16_5))]⟩
def h8_15 (u15_0 : (List (Int × (Bool × (Int × (ByteArray × (ByteArray × Unit))))))) (u15_1 : Int) (u15_2 : (List Int)) (u15_3 : (List (ByteArray × (ByteArray × Unit)))) (u15_4 : (List Int)) : St := ⟨264, [(1, (.lst (.pair (.int .i64) (.pair .bool (.pair (.int .u8) (.pair .str (.pair .str .nl))))) u15_0)), (5, (.ref 5 [])), (7, (.full 300012)), (8, (.int .i64 u15_1)), (13, (.ref 13 []))], [(5, (.arr (.int .u64) 128 u15_2)), (300012, (.bk (.pair .str (.pair .str .nl)) u15_3)), (13, (.arr (.int .u64) 128 u15_4))]⟩
def h8_14 (u14_0 : (List (Int × (Bool × (Int × (ByteArray × (ByteArray × Unit))))))) (u14_1 : Int) (u14_2 : (List Int)) (u14_3 : (List (ByteArray × (ByteArray × Unit)))) (u14_4 : (List Int)) : St := ⟨264, [(1, (.lst (.pair (.int .i64) (.pair .bool (.pair (.int .u8) (.pair .str (.pair .str .nl))))) u14_0)), (5, (.ref 5 [])), (7, (.full 300012)), (8, (.int .i64 u14_1)), (13, (.ref 13 []))], [(5, (.arr (.int .u64) 128 u14_2)), (300012, (.bk (.pair .str (.pair .str .nl)) u14_3)), (13, (.arr (.int .u64) 128 u14_4))]⟩
def h8_13 (u13_0 : (List (Int × (Bool × (Int × (ByteArray × (ByteArray × Unit))))))) (u13_1 : Int) (u13_2 : (List Int)) (u13_3 : (List Int)) (u13_4 : (List (ByteArray × (ByteArray × Unit)))) : St := ⟨264, [(12, .full 300012), (1, (.lst (.pair (.int .i64) (.pair .bool (.pair (.int .u8) (.pair .str (.pair .str .nl))))) u13_0)), (5, (.ref 5 [])), (8, (.int .i64 u13_1)), (13, (.ref 13 []))], [(5, (.arr (.int .u64) 128 u13_2)), (13, (.arr (.int .u64) 128 u13_3)), (300012, (.bk (.pair .str (.pair .str .nl)) u13_4))]⟩
def h8_11 (u11_0 : (List (Int × (Bool × (Int × (ByteArray × (ByteArray × Unit))))))) (u11_1 : Int) (u11_2 : Int) (u11_3 : Int) (u11_4 : (List Int)) (u11_5 : (List (ByteArray × (ByteArray × Unit)))) (u11_6 : (List (ByteArray × (ByteArray × Unit)))) (u11_7 : (List Int)) : St := ⟨264, [(1, (.lst (.pair (.int .i64) (.pair .bool (.pair (.int .u8) (.pair .str (.pair .str .nl))))) u11_0)), (5, (.ref 5 [])), (7, (.full 300007)), (8, (.int .i64 u11_1)), (12, (.full 300012)), (13, (.ref 13 [])), (14, (.int .i64 u11_2)), (15, (.int .i64 u11_3))], [(5, (.arr (.int .u64) 128 u11_4)), (300007, (.bk (.pair .str (.pair .str .nl)) u11_5)), (300012, (.bk (.pair .str (.pair .str .nl)) u11_6)), (13, (.arr (.int .u64) 128 u11_7))]⟩
def h8_10 (u10_0 : (List (Int × (Bool × (Int × (ByteArray × (ByteArray × Unit))))))) (u10_1 : Int) (u10_2 : Bool) (u10_3 : Int) (u10_4 : Int) (u10_5 : (List Int)) (u10_6 : (List (ByteArray × (ByteArray × Unit)))) (u10_7 : Int) (u10_8 : Bool) (u10_9 : Int) (u10_10 : ByteArray) (u10_11 : ByteArray) (u10_12 : (List (ByteArray × (ByteArray × Unit)))) (u10_13 : (List Int)) : St := ⟨264, [(1, (.lst (.pair (.int .i64) (.pair .bool (.pair (.int .u8) (.pair .str (.pair .str .nl))))) u10_0)), (5, (.ref 5 [])), (7, (.full 300007)), (8, (.int .i64 u10_1)), (9, (.ref 9 [])), (11, (.bool u10_2)), (12, (.full 300012)), (13, (.ref 13 [])), (14, (.int .i64 u10_3)), (15, (.int .i64 u10_4))], [(5, (.arr (.int .u64) 128 u10_5)), (300007, (.bk (.pair .str (.pair .str .nl)) u10_6)), (9, (.cons (.int .i64 u10_7) (.cons (.bool u10_8) (.cons (.int .u8 u10_9) (.cons (.str u10_10) (.cons (.str u10_11) .nl)))))), (300012, (.bk (.pair .str (.pair .str .nl)) u10_12)), (13, (.arr (.int .u64) 128 u10_13))]⟩
def h8_9 (u9_0 : (List (Int × (Bool × (Int × (ByteArray × (ByteArray × Unit))))))) (u9_1 : Int) (u9_2 : Bool) (u9_3 : Int) (u9_4 : (List Int)) (u9_5 : (List (ByteArray × (ByteArray × Unit)))) (u9_6 : Int) (u9_7 : Bool) (u9_8 : Int) (u9_9 : ByteArray) (u9_10 : ByteArray) (u9_11 : (List (ByteArray × (ByteArray × Unit)))) (u9_12 : (List Int)) : St := ⟨264, [(1, (.lst (.pair (.int .i64) (.pair .bool (.pair (.int .u8) (.pair .str (.pair .str .nl))))) u9_0)), (5, (.ref 5 [])), (7, (.full 300007)), (8, (.int .i64 u9_1)), (9, (.ref 9 [])), (11, (.bool u9_2)), (12, (.full 300012)), (13, (.ref 13 [])), (14, (.int .i64 u9_3))], [(5, (.arr (.int .u64) 128 u9_4)), (300007, (.bk (.pair .str (.pair .str .nl)) u9_5)), (9, (.cons (.int .i64 u9_6) (.cons (.bool u9_7) (.cons (.int .u8 u9_8) (.cons (.str u9_9) (.cons (.str u9_10) .nl)))))), (300012, (.bk (.pair .str (.pair .str .nl)) u9_11)), (13, (.arr (.int .u64) 128 u9_12))]⟩
def h8_8 (u8_0 : (List (Int × (Bool × (Int × (ByteArray × (ByteArray × Unit))))))) (u8_1 : Int) (u8_2 : Bool) (u8_3 : (List Int)) (u8_4 : (List (ByteArray × (ByteArray × Unit)))) (u8_5 : Int) (u8_6 : Bool) (u8_7 : Int) (u8_8 : ByteArray) (u8_9 : ByteArray) (u8_10 : (List Int)) (u8_11 : (List (ByteArray × (ByteArray × Unit)))) : St := ⟨264, [(12, .full 300012), (1, (.lst (.pair (.int .i64) (.pair .bool (.pair (.int .u8) (.pair .str (.pair .str .nl))))) u8_0)), (5, (.ref 5 [])), (7, (.full 300007)), (8, (.int .i64 u8_1)), (9, (.ref 9 [])), (11, (.bool u8_2)), (13, (.ref 13 []))], [(5, (.arr (.int .u64) 128 u8_3)), (300007, (.bk (.pair .str (.pair .str .nl)) u8_4)), (9, (.cons (.int .i64 u8_5) (.cons (.bool u8_6) (.cons (.int .u8 u8_7) (.cons (.str u8_8) (.cons (.str u8_9) .nl)))))), (13, (.arr (.int .u64) 128 u8_10)), (300012, (.bk (.pair .str (.pair .str .nl)) u8_11))]⟩
def h8_7 (u7_0 : (List (Int × (Bool × (Int × (ByteArray × (ByteArray × Unit))))))) (u7_1 : Int) (u7_2 : Int) (u7_3 : Bool) (u7_4 : (List Int)) (u7_5 : (List (ByteArray × (ByteArray × Unit)))) (u7_6 : Int) (u7_7 : Bool) (u7_8 : Int) (u7_9 : ByteArray) (u7_10 : ByteArray) (u7_11 : (List (ByteArray × (ByteArray × Unit)))) (u7_12 : (List Int)) : St := ⟨264, [(1, (.lst (.pair (.int .i64) (.pair .bool (.pair (.int .u8) (.pair .str (.pair .str .nl))))) u7_0)), (5, (.ref 5 [])), (7, (.full 300007)), (8, (.int .i64 u7_1)), (9, (.ref 9 [])), (10, (.int .i64 u7_2)), (11, (.bool u7_3)), (12, (.full 132)), (13, (.ref 13 []))], [(5, (.arr (.int .u64) 128 u7_4)), (300007, (.bk (.pair .str (.pair .str .nl)) u7_5)), (9, (.cons (.int .i64 u7_6) (.cons (.bool u7_7) (.cons (.int .u8 u7_8) (.cons (.str u7_9) (.cons (.str u7_10) .nl)))))), (132, (.bk (.pair .str (.pair .str .nl)) u7_11)), (13, (.arr (.int .u64) 128 u7_12))]⟩
def h8_21 (u21_0 : (List (Int × (Bool × (Int × (ByteArray × (ByteArray × Unit))))))) (u21_1 : Int) (u21_2 : Int) (u21_3 : Bool) (u21_4 : Int) (u21_5 : (List Int)) (u21_6 : (List (ByteArray × (ByteArray × Unit)))) (u21_7 : (List Int)) : St := ⟨264, [(1, (.lst (.pair (.int .i64) (.pair .bool (.pair (.int .u8) (.pair .str (.pair .str .nl))))) u21_0)), (5, (.ref 5 [])), (7, (.full 300007)), (8, (.int .i64 u21_1)), (10, (.int .i64 u21_2)), (11, (.bool u21_3)), (12, .nils), (13, (.ref 13 [])), (14, (.int .i64 u21_4))], [(5, (.arr (.int .u64) 128 u21_5)), (300007, (.bk (.pair .str (.pair .str .nl)) u21_6)), (13, (.arr (.int .u64) 128 u21_7))]⟩
def h8_20 (u20_0 : (List (Int × (Bool × (Int × (ByteArray × (ByteArray × Unit))))))) (u20_1 : Int) (u20_2 : Int) (u20_3 : Bool) (u20_4 : Int) (u20_5 : ByteArray) (u20_6 : (List Int)) (u20_7 : (List (ByteArray × (ByteArray × Unit)))) (u20_8 : (List Int)) : St := ⟨264, [(1, (.lst (.pair (.int .i64) (.pair .bool (.pair (.int .u8) (.pair .str (.pair .str .nl))))) u20_0)), (5, (.ref 5 [])), (7, (.full 300007)), (8, (.int .i64 u20_1)), (10, (.int .i64 u20_2)), (11, (.bool u20_3)), (12, .nils), (13, (.ref 13 [])), (14, (.int .i64 u20_4)), (16, (.str u20_5))], [(5, (.arr (.int .u64) 128 u20_6)), (300007, (.bk (.pair .str (.pair .str .nl)) u20_7)), (13, (.arr (.int .u64) 128 u20_8))]⟩
def h8_19 (u19_0 : (List (Int × (Bool × (Int × (ByteArray × (ByteArray × Unit))))))) (u19_1 : Int) (u19_2 : Int) (u19_3 : Bool) (u19_4 : (List Int)) (u19_5 : (List (ByteArray × (ByteArray × Unit)))) (u19_6 : Int) (u19_7 : Bool) (u19_8 : Int) (u19_9 : ByteArray) (u19_10 : ByteArray) (u19_11 : (List Int)) : St := ⟨264, [(1, (.lst (.pair (.int .i64) (.pair .bool (.pair (.int .u8) (.pair .str (.pair .str .nl))))) u19_0)), (5, (.ref 5 [])), (7, (.full 300007)), (8, (.int .i64 u19_1)), (9, (.ref 9 [])), (10, (.int .i64 u19_2)), (11, (.bool u19_3)), (12, .nils), (13, (.ref 13 []))], [(5, (.arr (.int .u64) 128 u19_4)), (300007, (.bk (.pair .str (.pair .str .nl)) u19_5)), (9, (.cons (.int .i64 u19_6) (.cons (.bool u19_7) (.cons (.int .u8 u19_8) (.cons (.str u19_9) (.cons (.str u19_10) .nl)))))), (13, (.arr (.int .u64) 128 u19_11))]⟩
def h8_23 (u23_0 : (List (Int × (Bool × (Int × (ByteArray × (ByteArray × Unit))))))) (u23_1 : Int) (u23_2 : Int) (u23_3 : (List Int)) (u23_4 : (List (ByteArray × (ByteArray × Unit)))) (u23_5 : (List Int)) : St := ⟨264, [(1, (.lst (.pair (.int .i64) (.pair .bool (.pair (.int .u8) (.pair .str (.pair .str .nl))))) u23_0)), (5, (.ref 5 [])), (7, (.full 300007)), (8, (.int .i64 u23_1)), (12, (.full 300007)), (13, (.ref 13 [])), (14, (.int .i64 u23_2))], [(5, (.arr (.int .u64) 128 u23_3)), (300007, (.bk (.pair .str (.pair .str .nl)) u23_4)), (13, (.arr (.int .u64) 128 u23_5))]⟩
def h8_22 (u22_0 : (List (Int × (Bool × (Int × (ByteArray × (ByteArray × Unit))))))) (u22_1 : Int) (u22_2 : (List Int)) (u22_3 : (List (ByteArray × (ByteArray × Unit)))) (u22_4 : (List Int)) : St := ⟨264, [(1, (.lst (.pair (.int .i64) (.pair .bool (.pair (.int .u8) (.pair .str (.pair .str .nl))))) u22_0)), (5, (.ref 5 [])), (7, (.full 300007)), (8, (.int .i64 u22_1)), (12, (.full 300007)), (13, (.ref 13 []))], [(5, (.arr (.int .u64) 128 u22_2)), (300007, (.bk (.pair .str (.pair .str .nl)) u22_3)), (13, (.arr (.int .u64) 128 u22_4))]⟩
def h8_6 (u6_0 : (List (Int × (Bool × (Int × (ByteArray × (ByteArray × Unit))))))) (u6_1 : Int) (u6_2 : Int) (u6_3 : Bool) (u6_4 : Int) (u6_5 : (List Int)) (u6_6 : (List (ByteArray × (ByteArray × Unit)))) (u6_7 : Int) (u6_8 : Bool) (u6_9 : Int) (u6_10 : ByteArray) (u6_11 : ByteArray) (u6_12 : (List Int)) : St := ⟨264, [(1, (.lst (.pair (.int .i64) (.pair .bool (.pair (.int .u8) (.pair .str (.pair .str .nl))))) u6_0)), (5, (.ref 5 [])), (7, (.full 300007)), (8, (.int .i64 u6_1)), (9, (.ref 9 [])), (10, (.int .i64 u6_2)), (11, (.bool u6_3)), (12, .nils), (13, (.ref 13 [])), (96, (.int .i64 u6_4))], [(5, (.arr (.int .u64) 128 u6_5)), (300007, (.bk (.pair .str (.pair .str .nl)) u6_6)), (9, (.cons (.int .i64 u6_7) (.cons (.bool u6_8) (.cons (.int .u8 u6_9) (.cons (.str u6_10) (.cons (.str u6_11) .nl)))))), (13, (.arr (.int .u64) 128 u6_12))]⟩
def h8_5 (u5_0 : (List (Int × (Bool × (Int × (ByteArray × (ByteArray × Unit))))))) (u5_1 : Int) (u5_2 : Int) (u5_3 : Bool) (u5_4 : (List Int)) (u5_5 : (List (ByteArray × (ByteArray × Unit)))) (u5_6 : Int) (u5_7 : Bool) (u5_8 : Int) (u5_9 : ByteArray) (u5_10 : ByteArray) (u5_11 : (List Int)) : St := ⟨264, [(1, (.lst (.pair (.int .i64) (.pair .bool (.pair (.int .u8) (.pair .str (.pair .str .nl))))) u5_0)), (5, (.ref 5 [])), (7, (.full 300007)), (8, (.int .i64 u5_1)), (9, (.ref 9 [])), (10, (.int .i64 u5_2)), (11, (.bool u5_3)), (12, .nils), (13, (.ref 13 []))], [(5, (.arr (.int .u64) 128 u5_4)), (300007, (.bk (.pair .str (.pair .str .nl)) u5_5)), (9, (.cons (.int .i64 u5_6) (.cons (.bool u5_7) (.cons (.int .u8 u5_8) (.cons (.str u5_9) (.cons (.str u5_10) .nl)))))), (13, (.arr (.int .u64) 128 u5_11))]⟩
def h8_4 (u4_0 : (List (Int × (Bool × (Int × (ByteArray × (ByteArray × Unit))))))) (u4_1 : Int) (u4_2 : Int) (u4_3 : Bool) (u4_4 : (List Int)) (u4_5 : (List (ByteArray × (ByteArray × Unit)))) (u4_6 : Int) (u4_7 : Bool) (u4_8 : Int) (u4_9 : ByteArray) (u4_10 : ByteArray) (u4_11 : (List Int)) : St := ⟨264, [(1, (.lst (.pair (.int .i64) (.pair .bool (.pair (.int .u8) (.pair .str (.pair .str .nl))))) u4_0)), (5, (.ref 5 [])), (7, (.full 300007)), (8, (.int .i64 u4_1)), (9, (.ref 9 [])), (10, (.int .i64 u4_2)), (11, (.bool u4_3)), (12, .nils), (13, (.ref 13 []))], [(5, (.arr (.int .u64) 128 u4_4)), (300007, (.bk (.pair .str (.pair .str .nl)) u4_5)), (9, (.cons (.int .i64 u4_6) (.cons (.bool u4_7) (.cons (.int .u8 u4_8) (.cons (.str u4_9) (.cons (.str u4_10) .nl)))))), (13, (.arr (.int .u64) 128 u4_11))]⟩
def h8_3 (u3_0 : (List (Int × (Bool × (Int × (ByteArray × (ByteArray × Unit))))))) (u3_1 : Int) (u3_2 : Int) (u3_3 : Bool) (u3_4 : (List Int)) (u3_5 : (List (ByteArray × (ByteArray × Unit)))) (u3_6 : Int) (u3_7 : Bool) (u3_8 : Int) (u3_9 : ByteArray) (u3_10 : ByteArray) : St := ⟨264, [(1, (.lst (.pair (.int .i64) (.pair .bool (.pair (.int .u8) (.pair .str (.pair .str .nl))))) u3_0)), (5, (.ref 5 [])), (7, (.full 300007)), (8, (.int .i64 u3_1)), (9, (.ref 9 [])), (10, (.int .i64 u3_2)), (11, (.bool u3_3)), (12, .nils)], [(5, (.arr (.int .u64) 128 u3_4)), (300007, (.bk (.pair .str (.pair .str .nl)) u3_5)), (9, (.cons (.int .i64 u3_6) (.cons (.bool u3_7) (.cons (.int .u8 u3_8) (.cons (.str u3_9) (.cons (.str u3_10) .nl))))))]⟩
def h8_2 (u2_0 : (List (Int × (Bool × (Int × (ByteArray × (ByteArray × Unit))))))) (u2_1 : Int) (u2_2 : Int) (u2_3 : Bool) (u2_4 : (List Int)) (u2_5 : (List (ByteArray × (ByteArray × Unit)))) (u2_6 : Int) (u2_7 : Bool) (u2_8 : Int) (u2_9 : ByteArray) (u2_10 : ByteArray) : St := ⟨264, [(1, (.lst (.pair (.int .i64) (.pair .bool (.pair (.int .u8) (.pair .str (.pair .str .nl))))) u2_0)), (5, (.ref 5 [])), (7, (.full 300007)), (8, (.int .i64 u2_1)), (9, (.ref 9 [])), (10, (.int .i64 u2_2)), (11, (.bool u2_3))], [(5, (.arr (.int .u64) 128 u2_4)), (300007, (.bk (.pair .str (.pair .str .nl)) u2_5)), (9, (.cons (.int .i64 u2_6) (.cons (.bool u2_7) (.cons (.int .u8 u2_8) (.cons (.str u2_9) (.cons (.str u2_10) .nl))))))]⟩
def h8_1 (u1_0 : (List (Int × (Bool × (Int × (ByteArray × (ByteArray × Unit))))))) (u1_1 : Int) (u1_2 : (List Int)) (u1_3 : (List (ByteArray × (ByteArray × Unit)))) (u1_4 : Int) (u1_5 : Bool) (u1_6 : Int) (u1_7 : ByteArray) (u1_8 : ByteArray) : St := ⟨264, [(1, (.lst (.pair (.int .i64) (.pair .bool (.pair (.int .u8) (.pair .str (.pair .str .nl))))) u1_0)), (5, (.ref 5 [])), (7, (.full 300007)), (8, (.int .i64 u1_1)), (9, (.ref 9 []))], [(5, (.arr (.int .u64) 128 u1_2)), (300007, (.bk (.pair .str (.pair .str .nl)) u1_3)), (9, (.cons (.int .i64 u1_4) (.cons (.bool u1_5) (.cons (.int .u8 u1_6) (.cons (.str u1_7) (.cons (.str u1_8) .nl))))))]⟩
def h8_0 (u0_0 : (List (Int × (Bool × (Int × (ByteArray × (ByteArray × Unit))))))) (u0_1 : Int) (u0_2 : (List Int)) (u0_3 : (List (ByteArray × (ByteArray × Unit)))) : St := ⟨264, [(7, .full 300007), (1, (.lst (.pair (.int .i64) (.pair .bool (.pair (.int .u8) (.pair .str (.pair .str .nl))))) u0_0)), (5, (.ref 5 [])), (8, (.int .i64 u0_1))], [(5, (.arr (.int .u64) 128 u0_2)), (300007, (.bk (.pair .str (.pair .str .nl)) u0_3))]⟩
theorem t8_12 : ∀ (N : Nat) (m0 : Nat) (u12_0 : (List (Int × (Bool × (Int × (ByteArray × (ByteArray × Unit))))))) (u12_1 : Int) (u12_2 : (List Int)) (u12_3 : (List (ByteArray × (ByteArray × Unit)))), cutAt (c8 N) a8 [1, 1, 1, 1, 0, 1, 0, 0, 1, 1] [m0] (codeOf Try.f8) (k8 N) (h8_12 u12_0 u12_1 u12_2 u12_3) = m_ticketlinelaw16_PageHolds_l12 N (fun w0 w1 w2 w3 => loopAt (c8 N) a8 [1, 1, 1, 1, 0, 1, 0] [] (codeOf Try.f8) (k8 N) m0 (h8_0 w0 w1 w2 w3)) u12_0 u12_1 u12_2 u12_3 := by
  intro N m0 u12_0 u12_1 u12_2 u12_3
  have e : cutAt (c8 N) a8 [1, 1, 1, 1, 0, 1, 0, 0, 1, 1] [m0] (codeOf Try.f8) (k8 N) (h8_12 u12_0 u12_1 u12_2 u12_3) = m_ticketlinelaw16_PageHolds_l12_b (fun w0 w1 w2 w3 => loopAt (c8 N) a8 [1, 1, 1, 1, 0, 1, 0] [] (codeOf Try.f8) (k8 N) m0 (h8_0 w0 w1 w2 w3)) u12_0 u12_1 u12_2 u12_3 := by kernel_rfl
  refine e.trans ?_
  rfl
theorem t8_18 : ∀ (N : Nat) (m0 m1 : Nat) (u18_0 : (List (Int × (Bool × (Int × (ByteArray × (ByteArray × Unit))))))) (u18_1 : Int) (u18_2 : Int) (u18_3 : (List Int)) (u18_4 : (List (ByteArray × (ByteArray × Unit)))) (u18_5 : (List Int)), cutAt (c8 N) a8 [1, 1, 1, 1, 0, 1, 0, 0, 1, 0, 0, 1, 1, 1, 1, 1, 1, 1, 1, 1, 1, 1, 0, 1, 0, 0, 1, 1] [m0, m1] (codeOf Try.f8) (k8 N) (h8_18 u18_0 u18_1 u18_2 u18_3 u18_4 u18_5) = m_ticketlinelaw16_PageHolds_l18 N (fun w0 w1 w2 w3 => loopAt (c8 N) a8 [1, 1, 1, 1, 0, 1, 0] [] (codeOf Try.f8) (k8 N) m0 (h8_0 w0 w1 w2 w3)) (fun w0 w1 w2 w3 w4 w5 => loopAt (c8 N) a8 [1, 1, 1, 1, 0, 1, 0, 0, 1, 0, 0, 1, 1, 1, 1, 1, 1, 1, 1, 1, 1, 1, 0, 1, 0] [m0] (codeOf Try.f8) (k8 N) m1 (h8_17 w0 w1 w2 w3 w4 w5)) u18_0 u18_1 u18_2 u18_3 u18_4 u18_5 := by
  intro N m0 m1 u18_0 u18_1 u18_2 u18_3 u18_4 u18_5
  have e : cutAt (c8 N) a8 [1, 1, 1, 1, 0, 1, 0, 0, 1, 0, 0, 1, 1, 1, 1, 1, 1, 1, 1, 1, 1, 1, 0, 1, 0, 0, 1, 1] [m0, m1] (codeOf Try.f8) (k8 N) (h8_18 u18_0 u18_1 u18_2 u18_3 u18_4 u18_5) = m_ticketlinelaw16_PageHolds_l18_b (fun w0 w1 w2 w3 => loopAt (c8 N) a8 [1, 1, 1, 1, 0, 1, 0] [] (codeOf Try.f8) (k8 N) m0 (h8_0 w0 w1 w2 w3)) (fun w0 w1 w2 w3 w4 w5 => loopAt (c8 N) a8 [1, 1, 1, 1, 0, 1, 0, 0, 1, 0, 0, 1, 1, 1, 1, 1, 1, 1, 1, 1, 1, 1, 0, 1, 0] [m0] (codeOf Try.f8) (k8 N) m1 (h8_17 w0 w1 w2 w3 w4 w5)) u18_0 u18_1 u18_2 u18_3 u18_4 u18_5 := by kernel_rfl
  refine e.trans ?_
  rfl
theorem t8_17 : ∀ (N : Nat) (m0 : Nat) (n : Nat) (u17_0 : (List (Int × (Bool × (Int × (ByteArray × (ByteArray × Unit))))))) (u17_1 : Int) (u17_2 : Int) (u17_3 : (List Int)) (u17_4 : (List Int)) (u17_5 : (List (ByteArray × (ByteArray × Unit)))), loopAt (c8 N) a8 [1, 1, 1, 1, 0, 1, 0, 0, 1, 0, 0, 1, 1, 1, 1, 1, 1, 1, 1, 1, 1, 1, 0, 1, 0] [m0] (codeOf Try.f8) (k8 N) n (h8_17 u17_0 u17_1 u17_2 u17_3 u17_4 u17_5) = m_ticketlinelaw16_PageHolds_l17 N (fun w0 w1 w2 w3 => loopAt (c8 N) a8 [1, 1, 1, 1, 0, 1, 0] [] (codeOf Try.f8) (k8 N) m0 (h8_0 w0 w1 w2 w3)) n u17_0 u17_1 u17_2 u17_3 u17_4 u17_5 := by
  intro N m0 n
  induction n with
  | zero => intro u17_0 u17_1 u17_2 u17_3 u17_4 u17_5; kernel_rfl
  | succ n ih =>
    intro u17_0 u17_1 u17_2 u17_3 u17_4 u17_5
    have e : loopAt (c8 N) a8 [1, 1, 1, 1, 0, 1, 0, 0, 1, 0, 0, 1, 1, 1, 1, 1, 1, 1, 1, 1, 1, 1, 0, 1, 0] [m0] (codeOf Try.f8) (k8 N) (n + 1) (h8_17 u17_0 u17_1 u17_2 u17_3 u17_4 u17_5) = m_ticketlinelaw16_PageHolds_l17_b (fun w0 w1 w2 w3 => loopAt (c8 N) a8 [1, 1, 1, 1, 0, 1, 0] [] (codeOf Try.f8) (k8 N) m0 (h8_0 w0 w1 w2 w3)) (fun w0 w1 w2 w3 w4 w5 => loopAt (c8 N) a8 [1, 1, 1, 1, 0, 1, 0, 0, 1, 0, 0, 1, 1, 1, 1, 1, 1, 1, 1, 1, 1, 1, 0, 1, 0] [m0] (codeOf Try.f8) (k8 N) n (h8_17 w0 w1 w2 w3 w4 w5)) (fun w0 w1 w2 w3 => cutAt (c8 N) a8 [1, 1, 1, 1, 0, 1, 0, 0, 1, 1] [m0] (codeOf Try.f8) (k8 N) (h8_12 w0 w1 w2 w3)) (fun w0 w1 w2 w3 w4 w5 => cutAt (c8 N) a8 [1, 1, 1, 1, 0, 1, 0, 0, 1, 0, 0, 1, 1, 1, 1, 1, 1, 1, 1, 1, 1, 1, 0, 1, 0, 0, 1, 1] [m0, n] (codeOf Try.f8) (k8 N) (h8_18 w0 w1 w2 w3 w4 w5)) u17_0 u17_1 u17_2 u17_3 u17_4 u17_5 := by kernel_rfl
    refine e.trans ?_
    have e12 : (fun w0 w1 w2 w3 => cutAt (c8 N) a8 [1, 1, 1, 1, 0, 1, 0, 0, 1, 1] [m0] (codeOf Try.f8) (k8 N) (h8_12 w0 w1 w2 w3)) = m_ticketlinelaw16_PageHolds_l12 N (fun w0 w1 w2 w3 => loopAt (c8 N) a8 [1, 1, 1, 1, 0, 1, 0] [] (codeOf Try.f8) (k8 N) m0 (h8_0 w0 w1 w2 w3)) := by
      funext w0 w1 w2 w3; exact t8_12 N m0 w0 w1 w2 w3
    rw [e12]
    have e18 : (fun w0 w1 w2 w3 w4 w5 => cutAt (c8 N) a8 [1, 1, 1, 1, 0, 1, 0, 0, 1, 0, 0, 1, 1, 1, 1, 1, 1, 1, 1, 1, 1, 1, 0, 1, 0, 0, 1, 1] [m0, n] (codeOf Try.f8) (k8 N) (h8_18 w0 w1 w2 w3 w4 w5)) = m_ticketlinelaw16_PageHolds_l18 N (fun w0 w1 w2 w3 => loopAt (c8 N) a8 [1, 1, 1, 1, 0, 1, 0] [] (codeOf Try.f8) (k8 N) m0 (h8_0 w0 w1 w2 w3)) (fun w0 w1 w2 w3 w4 w5 => loopAt (c8 N) a8 [1, 1, 1, 1, 0, 1, 0, 0, 1, 0, 0, 1, 1, 1, 1, 1, 1, 1, 1, 1, 1, 1, 0, 1, 0] [m0] (codeOf Try.f8) (k8 N) n (h8_17 w0 w1 w2 w3 w4 w5)) := by
      funext w0 w1 w2 w3 w4 w5; exact t8_18 N m0 n w0 w1 w2 w3 w4 w5
    rw [e18]
    have es : (fun w0 w1 w2 w3 w4 w5 => loopAt (c8 N) a8 [1, 1, 1, 1, 0, 1, 0, 0, 1, 0, 0, 1, 1, 1, 1, 1, 1, 1, 1, 1, 1, 1, 0, 1, 0] [m0] (codeOf Try.f8) (k8 N) n (h8_17 w0 w1 w2 w3 w4 w5)) = m_ticketlinelaw16_PageHolds_l17 N (fun w0 w1 w2 w3 => loopAt (c8 N) a8 [1, 1, 1, 1, 0, 1, 0] [] (codeOf Try.f8) (k8 N) m0 (h8_0 w0 w1 w2 w3)) n := by
      funext w0 w1 w2 w3 w4 w5; exact ih w0 w1 w2 w3 w4 w5
    rw [es]
    rw [m_ticketlinelaw16_PageHolds_l17]
theorem t8_16 : ∀ (N : Nat) (m0 : Nat) (u16_0 : (List (Int × (Bool × (Int × (ByteArray × (ByteArray × Unit))))))) (u16_1 : Int) (u16_2 : Int) (u16_3 : (List Int)) (u16_4 : (List (ByteArray × (ByteArray × Unit)))) (u16_5 : (List Int)), cutAt (c8 N) a8 [1, 1, 1, 1, 0, 1, 0, 0, 1, 0, 0, 1, 1, 1, 1, 1, 1, 1, 1, 1, 1, 1, 0, 1] [m0] (codeOf Try.f8) (k8 N) (h8_16 u16_0 u16_1 u16_2 u16_3 u16_4 u16_5) = m_ticketlinelaw16_PageHolds_l16 N (fun w0 w1 w2 w3 => loopAt (c8 N) a8 [1, 1, 1, 1, 0, 1, 0] [] (codeOf Try.f8) (k8 N) m0 (h8_0 w0 w1 w2 w3)) u16_0 u16_1 u16_2 u16_3 u16_4 u16_5 := by
  intro N m0 u16_0 u16_1 u16_2 u16_3 u16_4 u16_5
  have e : cutAt (c8 N) a8 [1, 1, 1, 1, 0, 1, 0, 0, 1, 0, 0, 1, 1, 1, 1, 1, 1, 1, 1, 1, 1, 1, 0, 1] [m0] (codeOf Try.f8) (k8 N) (h8_16 u16_0 u16_1 u16_2 u16_3 u16_4 u16_5) = m_ticketlinelaw16_PageHolds_l16_b (fun w0 w1 w2 w3 => loopAt (c8 N) a8 [1, 1, 1, 1, 0, 1, 0] [] (codeOf Try.f8) (k8 N) m0 (h8_0 w0 w1 w2 w3)) (fun w0 w1 w2 w3 w4 w5 => loopAt (c8 N) a8 [1, 1, 1, 1, 0, 1, 0, 0, 1, 0, 0, 1, 1, 1, 1, 1, 1, 1, 1, 1, 1, 1, 0, 1, 0] [m0] (codeOf Try.f8) (k8 N) N (h8_17 w0 w1 w2 w3 w4 w5)) u16_0 u16_1 u16_2 u16_3 u16_4 u16_5 := by kernel_rfl
  refine e.trans ?_
  have e17 : (fun w0 w1 w2 w3 w4 w5 => loopAt (c8 N) a8 [1, 1, 1, 1, 0, 1, 0, 0, 1, 0, 0, 1, 1, 1, 1, 1, 1, 1, 1, 1, 1, 1, 0, 1, 0] [m0] (codeOf Try.f8) (k8 N) N (h8_17 w0 w1 w2 w3 w4 w5)) = m_ticketlinelaw16_PageHolds_l17 N (fun w0 w1 w2 w3 => loopAt (c8 N) a8 [1, 1, 1, 1, 0, 1, 0] [] (codeOf Try.f8) (k8 N) m0 (h8_0 w0 w1 w2 w3)) N := by
    funext w0 w1 w2 w3 w4 w5; exact t8_17 N m0 N w0 w1 w2 w3 w4 w5
  rw [e17]
  rfl
theorem t8_15 : ∀ (N : Nat) (m0 : Nat) (u15_0 : (List (Int × (Bool × (Int × (ByteArray × (ByteArray × Unit))))))) (u15_1 : Int) (u15_2 : (List Int)) (u15_3 : (List (ByteArray × (ByteArray × Unit)))) (u15_4 : (List Int)), cutAt (c8 N) a8 [1, 1, 1, 1, 0, 1, 0, 0, 1, 0, 0, 1, 1, 1, 1, 1, 1, 1, 1, 1, 1, 1] [m0] (codeOf Try.f8) (k8 N) (h8_15 u15_0 u15_1 u15_2 u15_3 u15_4) = m_ticketlinelaw16_PageHolds_l15 N (fun w0 w1 w2 w3 => loopAt (c8 N) a8 [1, 1, 1, 1, 0, 1, 0] [] (codeOf Try.f8) (k8 N) m0 (h8_0 w0 w1 w2 w3)) u15_0 u15_1 u15_2 u15_3 u15_4 := by
  intro N m0 u15_0 u15_1 u15_2 u15_3 u15_4
  have e : cutAt (c8 N) a8 [1, 1, 1, 1, 0, 1, 0, 0, 1, 0, 0, 1, 1, 1, 1, 1, 1, 1, 1, 1, 1, 1] [m0] (codeOf Try.f8) (k8 N) (h8_15 u15_0 u15_1 u15_2 u15_3 u15_4) = m_ticketlinelaw16_PageHolds_l15_b (fun w0 w1 w2 w3 => loopAt (c8 N) a8 [1, 1, 1, 1, 0, 1, 0] [] (codeOf Try.f8) (k8 N) m0 (h8_0 w0 w1 w2 w3)) (fun w0 w1 w2 w3 w4 w5 => cutAt (c8 N) a8 [1, 1, 1, 1, 0, 1, 0, 0, 1, 0, 0, 1, 1, 1, 1, 1, 1, 1, 1, 1, 1, 1, 0, 1] [m0] (codeOf Try.f8) (k8 N) (h8_16 w0 w1 w2 w3 w4 w5)) u15_0 u15_1 u15_2 u15_3 u15_4 := by kernel_rfl
  refine e.trans ?_
  have e16 : (fun w0 w1 w2 w3 w4 w5 => cutAt (c8 N) a8 [1, 1, 1, 1, 0, 1, 0, 0, 1, 0, 0, 1, 1, 1, 1, 1, 1, 1, 1, 1, 1, 1, 0, 1] [m0] (codeOf Try.f8) (k8 N) (h8_16 w0 w1 w2 w3 w4 w5)) = m_ticketlinelaw16_PageHolds_l16 N (fun w0 w1 w2 w3 => loopAt (c8 N) a8 [1, 1, 1, 1, 0, 1, 0] [] (codeOf Try.f8) (k8 N) m0 (h8_0 w0 w1 w2 w3)) := by
    funext w0 w1 w2 w3 w4 w5; exact t8_16 N m0 w0 w1 w2 w3 w4 w5
  rw [e16]
  rfl
theorem t8_14 : ∀ (N : Nat) (m0 : Nat) (u14_0 : (List (Int × (Bool × (Int × (ByteArray × (ByteArray × Unit))))))) (u14_1 : Int) (u14_2 : (List Int)) (u14_3 : (List (ByteArray × (ByteArray × Unit)))) (u14_4 : (List Int)), cutAt (c8 N) a8 [1, 1, 1, 1, 0, 1, 0, 0, 1, 0, 0, 1, 1, 1, 1, 1, 1, 1, 1, 1, 1] [m0] (codeOf Try.f8) (k8 N) (h8_14 u14_0 u14_1 u14_2 u14_3 u14_4) = m_ticketlinelaw16_PageHolds_l14 N (fun w0 w1 w2 w3 => loopAt (c8 N) a8 [1, 1, 1, 1, 0, 1, 0] [] (codeOf Try.f8) (k8 N) m0 (h8_0 w0 w1 w2 w3)) u14_0 u14_1 u14_2 u14_3 u14_4 := by
  intro N m0 u14_0 u14_1 u14_2 u14_3 u14_4
  have e : cutAt (c8 N) a8 [1, 1, 1, 1, 0, 1, 0, 0, 1, 0, 0, 1, 1, 1, 1, 1, 1, 1, 1, 1, 1] [m0] (codeOf Try.f8) (k8 N) (h8_14 u14_0 u14_1 u14_2 u14_3 u14_4) = m_ticketlinelaw16_PageHolds_l14_b (fun w0 w1 w2 w3 => loopAt (c8 N) a8 [1, 1, 1, 1, 0, 1, 0] [] (codeOf Try.f8) (k8 N) m0 (h8_0 w0 w1 w2 w3)) (fun w0 w1 w2 w3 w4 => cutAt (c8 N) a8 [1, 1, 1, 1, 0, 1, 0, 0, 1, 0, 0, 1, 1, 1, 1, 1, 1, 1, 1, 1, 1, 1] [m0] (codeOf Try.f8) (k8 N) (h8_15 w0 w1 w2 w3 w4)) u14_0 u14_1 u14_2 u14_3 u14_4 := by kernel_rfl
  refine e.trans ?_
  have e15 : (fun w0 w1 w2 w3 w4 => cutAt (c8 N) a8 [1, 1, 1, 1, 0, 1, 0, 0, 1, 0, 0, 1, 1, 1, 1, 1, 1, 1, 1, 1, 1, 1] [m0] (codeOf Try.f8) (k8 N) (h8_15 w0 w1 w2 w3 w4)) = m_ticketlinelaw16_PageHolds_l15 N (fun w0 w1 w2 w3 => loopAt (c8 N) a8 [1, 1, 1, 1, 0, 1, 0] [] (codeOf Try.f8) (k8 N) m0 (h8_0 w0 w1 w2 w3)) := by
    funext w0 w1 w2 w3 w4; exact t8_15 N m0 w0 w1 w2 w3 w4
  rw [e15]
  rfl
theorem t8_13 : ∀ (N : Nat) (m0 : Nat) (u13_0 : (List (Int × (Bool × (Int × (ByteArray × (ByteArray × Unit))))))) (u13_1 : Int) (u13_2 : (List Int)) (u13_3 : (List Int)) (u13_4 : (List (ByteArray × (ByteArray × Unit)))), cutAt (c8 N) a8 [1, 1, 1, 1, 0, 1, 0, 0, 1, 0, 0, 1, 1, 1, 1, 1, 1, 1, 1, 1] [m0] (codeOf Try.f8) (k8 N) (h8_13 u13_0 u13_1 u13_2 u13_3 u13_4) = m_ticketlinelaw16_PageHolds_l13 N (fun w0 w1 w2 w3 => loopAt (c8 N) a8 [1, 1, 1, 1, 0, 1, 0] [] (codeOf Try.f8) (k8 N) m0 (h8_0 w0 w1 w2 w3)) u13_0 u13_1 u13_2 u13_3 u13_4 := by
  intro N m0 u13_0 u13_1 u13_2 u13_3 u13_4
  have e : cutAt (c8 N) a8 [1, 1, 1, 1, 0, 1, 0, 0, 1, 0, 0, 1, 1, 1, 1, 1, 1, 1, 1, 1] [m0] (codeOf Try.f8) (k8 N) (h8_13 u13_0 u13_1 u13_2 u13_3 u13_4) = m_ticketlinelaw16_PageHolds_l13_b (fun w0 w1 w2 w3 => loopAt (c8 N) a8 [1, 1, 1, 1, 0, 1, 0] [] (codeOf Try.f8) (k8 N) m0 (h8_0 w0 w1 w2 w3)) (fun w0 w1 w2 w3 w4 => cutAt (c8 N) a8 [1, 1, 1, 1, 0, 1, 0, 0, 1, 0, 0, 1, 1, 1, 1, 1, 1, 1, 1, 1, 1] [m0] (codeOf Try.f8) (k8 N) (h8_14 w0 w1 w2 w3 w4)) u13_0 u13_1 u13_2 u13_3 u13_4 := by kernel_rfl
  refine e.trans ?_
  have e14 : (fun w0 w1 w2 w3 w4 => cutAt (c8 N) a8 [1, 1, 1, 1, 0, 1, 0, 0, 1, 0, 0, 1, 1, 1, 1, 1, 1, 1, 1, 1, 1] [m0] (codeOf Try.f8) (k8 N) (h8_14 w0 w1 w2 w3 w4)) = m_ticketlinelaw16_PageHolds_l14 N (fun w0 w1 w2 w3 => loopAt (c8 N) a8 [1, 1, 1, 1, 0, 1, 0] [] (codeOf Try.f8) (k8 N) m0 (h8_0 w0 w1 w2 w3)) := by
    funext w0 w1 w2 w3 w4; exact t8_14 N m0 w0 w1 w2 w3 w4
  rw [e14]
  rfl
theorem t8_11 : ∀ (N : Nat) (m0 : Nat) (u11_0 : (List (Int × (Bool × (Int × (ByteArray × (ByteArray × Unit))))))) (u11_1 : Int) (u11_2 : Int) (u11_3 : Int) (u11_4 : (List Int)) (u11_5 : (List (ByteArray × (ByteArray × Unit)))) (u11_6 : (List (ByteArray × (ByteArray × Unit)))) (u11_7 : (List Int)), cutAt (c8 N) a8 [1, 1, 1, 1, 0, 1, 0, 0, 1, 0, 0, 1, 1, 1, 1, 1, 1, 1, 0, 1, 0, 1, 0, 1, 1, 1, 1, 1] [m0] (codeOf Try.f8) (k8 N) (h8_11 u11_0 u11_1 u11_2 u11_3 u11_4 u11_5 u11_6 u11_7) = m_ticketlinelaw16_PageHolds_l11 N (fun w0 w1 w2 w3 => loopAt (c8 N) a8 [1, 1, 1, 1, 0, 1, 0] [] (codeOf Try.f8) (k8 N) m0 (h8_0 w0 w1 w2 w3)) u11_0 u11_1 u11_2 u11_3 u11_4 u11_5 u11_6 u11_7 := by
  intro N m0 u11_0 u11_1 u11_2 u11_3 u11_4 u11_5 u11_6 u11_7
  have e : cutAt (c8 N) a8 [1, 1, 1, 1, 0, 1, 0, 0, 1, 0, 0, 1, 1, 1, 1, 1, 1, 1, 0, 1, 0, 1, 0, 1, 1, 1, 1, 1] [m0] (codeOf Try.f8) (k8 N) (h8_11 u11_0 u11_1 u11_2 u11_3 u11_4 u11_5 u11_6 u11_7) = m_ticketlinelaw16_PageHolds_l11_b (fun w0 w1 w2 w3 => loopAt (c8 N) a8 [1, 1, 1, 1, 0, 1, 0] [] (codeOf Try.f8) (k8 N) m0 (h8_0 w0 w1 w2 w3)) (fun w0 w1 w2 w3 => cutAt (c8 N) a8 [1, 1, 1, 1, 0, 1, 0, 0, 1, 1] [m0] (codeOf Try.f8) (k8 N) (h8_12 w0 w1 w2 w3)) (fun w0 w1 w2 w3 w4 => cutAt (c8 N) a8 [1, 1, 1, 1, 0, 1, 0, 0, 1, 0, 0, 1, 1, 1, 1, 1, 1, 1, 1, 1] [m0] (codeOf Try.f8) (k8 N) (h8_13 w0 w1 w2 w3 w4)) u11_0 u11_1 u11_2 u11_3 u11_4 u11_5 u11_6 u11_7 := by kernel_rfl
  refine e.trans ?_
  have e12 : (fun w0 w1 w2 w3 => cutAt (c8 N) a8 [1, 1, 1, 1, 0, 1, 0, 0, 1, 1] [m0] (codeOf Try.f8) (k8 N) (h8_12 w0 w1 w2 w3)) = m_ticketlinelaw16_PageHolds_l12 N (fun w0 w1 w2 w3 => loopAt (c8 N) a8 [1, 1, 1, 1, 0, 1, 0] [] (codeOf Try.f8) (k8 N) m0 (h8_0 w0 w1 w2 w3)) := by
    funext w0 w1 w2 w3; exact t8_12 N m0 w0 w1 w2 w3
  rw [e12]
  have e13 : (fun w0 w1 w2 w3 w4 => cutAt (c8 N) a8 [1, 1, 1, 1, 0, 1, 0, 0, 1, 0, 0, 1, 1, 1, 1, 1, 1, 1, 1, 1] [m0] (codeOf Try.f8) (k8 N) (h8_13 w0 w1 w2 w3 w4)) = m_ticketlinelaw16_PageHolds_l13 N (fun w0 w1 w2 w3 => loopAt (c8 N) a8 [1, 1, 1, 1, 0, 1, 0] [] (codeOf Try.f8) (k8 N) m0 (h8_0 w0 w1 w2 w3)) := by
    funext w0 w1 w2 w3 w4; exact t8_13 N m0 w0 w1 w2 w3 w4
  rw [e13]
  rfl
theorem t8_10 : ∀ (N : Nat) (m0 : Nat) (u10_0 : (List (Int × (Bool × (Int × (ByteArray × (ByteArray × Unit))))))) (u10_1 : Int) (u10_2 : Bool) (u10_3 : Int) (u10_4 : Int) (u10_5 : (List Int)) (u10_6 : (List (ByteArray × (ByteArray × Unit)))) (u10_7 : Int) (u10_8 : Bool) (u10_9 : Int) (u10_10 : ByteArray) (u10_11 : ByteArray) (u10_12 : (List (ByteArray × (ByteArray × Unit)))) (u10_13 : (List Int)), cutAt (c8 N) a8 [1, 1, 1, 1, 0, 1, 0, 0, 1, 0, 0, 1, 1, 1, 1, 1, 1, 1, 0, 1, 0, 1, 0, 1, 1, 1, 1] [m0] (codeOf Try.f8) (k8 N) (h8_10 u10_0 u10_1 u10_2 u10_3 u10_4 u10_5 u10_6 u10_7 u10_8 u10_9 u10_10 u10_11 u10_12 u10_13) = m_ticketlinelaw16_PageHolds_l10 N (fun w0 w1 w2 w3 => loopAt (c8 N) a8 [1, 1, 1, 1, 0, 1, 0] [] (codeOf Try.f8) (k8 N) m0 (h8_0 w0 w1 w2 w3)) u10_0 u10_1 u10_2 u10_3 u10_4 u10_5 u10_6 u10_7 u10_8 u10_9 u10_10 u10_11 u10_12 u10_13 := by
  intro N m0 u10_0 u10_1 u10_2 u10_3 u10_4 u10_5 u10_6 u10_7 u10_8 u10_9 u10_10 u10_11 u10_12 u10_13
  have e : cutAt (c8 N) a8 [1, 1, 1, 1, 0, 1, 0, 0, 1, 0, 0, 1, 1, 1, 1, 1, 1, 1, 0, 1, 0, 1, 0, 1, 1, 1, 1] [m0] (codeOf Try.f8) (k8 N) (h8_10 u10_0 u10_1 u10_2 u10_3 u10_4 u10_5 u10_6 u10_7 u10_8 u10_9 u10_10 u10_11 u10_12 u10_13) = m_ticketlinelaw16_PageHolds_l10_b (fun w0 w1 w2 w3 => loopAt (c8 N) a8 [1, 1, 1, 1, 0, 1, 0] [] (codeOf Try.f8) (k8 N) m0 (h8_0 w0 w1 w2 w3)) (fun w0 w1 w2 w3 w4 w5 w6 w7 => cutAt (c8 N) a8 [1, 1, 1, 1, 0, 1, 0, 0, 1, 0, 0, 1, 1, 1, 1, 1, 1, 1, 0, 1, 0, 1, 0, 1, 1, 1, 1, 1] [m0] (codeOf Try.f8) (k8 N) (h8_11 w0 w1 w2 w3 w4 w5 w6 w7)) u10_0 u10_1 u10_2 u10_3 u10_4 u10_5 u10_6 u10_7 u10_8 u10_9 u10_10 u10_11 u10_12 u10_13 := by kernel_rfl
  refine e.trans ?_
  have e11 : (fun w0 w1 w2 w3 w4 w5 w6 w7 => cutAt (c8 N) a8 [1, 1, 1, 1, 0, 1, 0, 0, 1, 0, 0, 1, 1, 1, 1, 1, 1, 1, 0, 1, 0, 1, 0, 1, 1, 1, 1, 1] [m0] (codeOf Try.f8) (k8 N) (h8_11 w0 w1 w2 w3 w4 w5 w6 w7)) = m_ticketlinelaw16_PageHolds_l11 N (fun w0 w1 w2 w3 => loopAt (c8 N) a8 [1, 1, 1, 1, 0, 1, 0] [] (codeOf Try.f8) (k8 N) m0 (h8_0 w0 w1 w2 w3)) := by
    funext w0 w1 w2 w3 w4 w5 w6 w7; exact t8_11 N m0 w0 w1 w2 w3 w4 w5 w6 w7
  rw [e11]
  rfl
theorem t8_9 : ∀ (N : Nat) (m0 : Nat) (u9_0 : (List (Int × (Bool × (Int × (ByteArray × (ByteArray × Unit))))))) (u9_1 : Int) (u9_2 : Bool) (u9_3 : Int) (u9_4 : (List Int)) (u9_5 : (List (ByteArray × (ByteArray × Unit)))) (u9_6 : Int) (u9_7 : Bool) (u9_8 : Int) (u9_9 : ByteArray) (u9_10 : ByteArray) (u9_11 : (List (ByteArray × (ByteArray × Unit)))) (u9_12 : (List Int)), cutAt (c8 N) a8 [1, 1, 1, 1, 0, 1, 0, 0, 1, 0, 0, 1, 1, 1, 1, 1, 1, 1, 0, 1, 0, 1, 0, 1, 1, 1] [m0] (codeOf Try.f8) (k8 N) (h8_9 u9_0 u9_1 u9_2 u9_3 u9_4 u9_5 u9_6 u9_7 u9_8 u9_9 u9_10 u9_11 u9_12) = m_ticketlinelaw16_PageHolds_l9 N (fun w0 w1 w2 w3 => loopAt (c8 N) a8 [1, 1, 1, 1, 0, 1, 0] [] (codeOf Try.f8) (k8 N) m0 (h8_0 w0 w1 w2 w3)) u9_0 u9_1 u9_2 u9_3 u9_4 u9_5 u9_6 u9_7 u9_8 u9_9 u9_10 u9_11 u9_12 := by
  intro N m0 u9_0 u9_1 u9_2 u9_3 u9_4 u9_5 u9_6 u9_7 u9_8 u9_9 u9_10 u9_11 u9_12
  have e : cutAt (c8 N) a8 [1, 1, 1, 1, 0, 1, 0, 0, 1, 0, 0, 1, 1, 1, 1, 1, 1, 1, 0, 1, 0, 1, 0, 1, 1, 1] [m0] (codeOf Try.f8) (k8 N) (h8_9 u9_0 u9_1 u9_2 u9_3 u9_4 u9_5 u9_6 u9_7 u9_8 u9_9 u9_10 u9_11 u9_12) = m_ticketlinelaw16_PageHolds_l9_b (fun w0 w1 w2 w3 => loopAt (c8 N) a8 [1, 1, 1, 1, 0, 1, 0] [] (codeOf Try.f8) (k8 N) m0 (h8_0 w0 w1 w2 w3)) (fun w0 w1 w2 w3 w4 w5 w6 w7 w8 w9 w10 w11 w12 w13 => cutAt (c8 N) a8 [1, 1, 1, 1, 0, 1, 0, 0, 1, 0, 0, 1, 1, 1, 1, 1, 1, 1, 0, 1, 0, 1, 0, 1, 1, 1, 1] [m0] (codeOf Try.f8) (k8 N) (h8_10 w0 w1 w2 w3 w4 w5 w6 w7 w8 w9 w10 w11 w12 w13)) u9_0 u9_1 u9_2 u9_3 u9_4 u9_5 u9_6 u9_7 u9_8 u9_9 u9_10 u9_11 u9_12 := by kernel_rfl
  refine e.trans ?_
  have e10 : (fun w0 w1 w2 w3 w4 w5 w6 w7 w8 w9 w10 w11 w12 w13 => cutAt (c8 N) a8 [1, 1, 1, 1, 0, 1, 0, 0, 1, 0, 0, 1, 1, 1, 1, 1, 1, 1, 0, 1, 0, 1, 0, 1, 1, 1, 1] [m0] (codeOf Try.f8) (k8 N) (h8_10 w0 w1 w2 w3 w4 w5 w6 w7 w8 w9 w10 w11 w12 w13)) = m_ticketlinelaw16_PageHolds_l10 N (fun w0 w1 w2 w3 => loopAt (c8 N) a8 [1, 1, 1, 1, 0, 1, 0] [] (codeOf Try.f8) (k8 N) m0 (h8_0 w0 w1 w2 w3)) := by
    funext w0 w1 w2 w3 w4 w5 w6 w7 w8 w9 w10 w11 w12 w13; exact t8_10 N m0 w0 w1 w2 w3 w4 w5 w6 w7 w8 w9 w10 w11 w12 w13
  rw [e10]
  rfl
theorem t8_8 : ∀ (N : Nat) (m0 : Nat) (u8_0 : (List (Int × (Bool × (Int × (ByteArray × (ByteArray × Unit))))))) (u8_1 : Int) (u8_2 : Bool) (u8_3 : (List Int)) (u8_4 : (List (ByteArray × (ByteArray × Unit)))) (u8_5 : Int) (u8_6 : Bool) (u8_7 : Int) (u8_8 : ByteArray) (u8_9 : ByteArray) (u8_10 : (List Int)) (u8_11 : (List (ByteArray × (ByteArray × Unit)))), cutAt (c8 N) a8 [1, 1, 1, 1, 0, 1, 0, 0, 1, 0, 0, 1, 1, 1, 1, 1, 1, 1, 0, 1, 0, 1, 0, 1, 1] [m0] (codeOf Try.f8) (k8 N) (h8_8 u8_0 u8_1 u8_2 u8_3 u8_4 u8_5 u8_6 u8_7 u8_8 u8_9 u8_10 u8_11) = m_ticketlinelaw16_PageHolds_l8 N (fun w0 w1 w2 w3 => loopAt (c8 N) a8 [1, 1, 1, 1, 0, 1, 0] [] (codeOf Try.f8) (k8 N) m0 (h8_0 w0 w1 w2 w3)) u8_0 u8_1 u8_2 u8_3 u8_4 u8_5 u8_6 u8_7 u8_8 u8_9 u8_10 u8_11 := by
  intro N m0 u8_0 u8_1 u8_2 u8_3 u8_4 u8_5 u8_6 u8_7 u8_8 u8_9 u8_10 u8_11
  have e : cutAt (c8 N) a8 [1, 1, 1, 1, 0, 1, 0, 0, 1, 0, 0, 1, 1, 1, 1, 1, 1, 1, 0, 1, 0, 1, 0, 1, 1] [m0] (codeOf Try.f8) (k8 N) (h8_8 u8_0 u8_1 u8_2 u8_3 u8_4 u8_5 u8_6 u8_7 u8_8 u8_9 u8_10 u8_11) = m_ticketlinelaw16_PageHolds_l8_b (fun w0 w1 w2 w3 => loopAt (c8 N) a8 [1, 1, 1, 1, 0, 1, 0] [] (codeOf Try.f8) (k8 N) m0 (h8_0 w0 w1 w2 w3)) (fun w0 w1 w2 w3 w4 w5 w6 w7 w8 w9 w10 w11 w12 => cutAt (c8 N) a8 [1, 1, 1, 1, 0, 1, 0, 0, 1, 0, 0, 1, 1, 1, 1, 1, 1, 1, 0, 1, 0, 1, 0, 1, 1, 1] [m0] (codeOf Try.f8) (k8 N) (h8_9 w0 w1 w2 w3 w4 w5 w6 w7 w8 w9 w10 w11 w12)) u8_0 u8_1 u8_2 u8_3 u8_4 u8_5 u8_6 u8_7 u8_8 u8_9 u8_10 u8_11 := by kernel_rfl
  refine e.trans ?_
  have e9 : (fun w0 w1 w2 w3 w4 w5 w6 w7 w8 w9 w10 w11 w12 => cutAt (c8 N) a8 [1, 1, 1, 1, 0, 1, 0, 0, 1, 0, 0, 1, 1, 1, 1, 1, 1, 1, 0, 1, 0, 1, 0, 1, 1, 1] [m0] (codeOf Try.f8) (k8 N) (h8_9 w0 w1 w2 w3 w4 w5 w6 w7 w8 w9 w10 w11 w12)) = m_ticketlinelaw16_PageHolds_l9 N (fun w0 w1 w2 w3 => loopAt (c8 N) a8 [1, 1, 1, 1, 0, 1, 0] [] (codeOf Try.f8) (k8 N) m0 (h8_0 w0 w1 w2 w3)) := by
    funext w0 w1 w2 w3 w4 w5 w6 w7 w8 w9 w10 w11 w12; exact t8_9 N m0 w0 w1 w2 w3 w4 w5 w6 w7 w8 w9 w10 w11 w12
  rw [e9]
  rfl
theorem t8_7 : ∀ (N : Nat) (m0 : Nat) (u7_0 : (List (Int × (Bool × (Int × (ByteArray × (ByteArray × Unit))))))) (u7_1 : Int) (u7_2 : Int) (u7_3 : Bool) (u7_4 : (List Int)) (u7_5 : (List (ByteArray × (ByteArray × Unit)))) (u7_6 : Int) (u7_7 : Bool) (u7_8 : Int) (u7_9 : ByteArray) (u7_10 : ByteArray) (u7_11 : (List (ByteArray × (ByteArray × Unit)))) (u7_12 : (List Int)), cutAt (c8 N) a8 [1, 1, 1, 1, 0, 1, 0, 0, 1, 0, 0, 1, 1, 1, 1, 1, 1, 1, 0, 1, 0, 1, 0, 1] [m0] (codeOf Try.f8) (k8 N) (h8_7 u7_0 u7_1 u7_2 u7_3 u7_4 u7_5 u7_6 u7_7 u7_8 u7_9 u7_10 u7_11 u7_12) = m_ticketlinelaw16_PageHolds_l7 N (fun w0 w1 w2 w3 => loopAt (c8 N) a8 [1, 1, 1, 1, 0, 1, 0] [] (codeOf Try.f8) (k8 N) m0 (h8_0 w0 w1 w2 w3)) u7_0 u7_1 u7_2 u7_3 u7_4 u7_5 u7_6 u7_7 u7_8 u7_9 u7_10 u7_11 u7_12 := by
  intro N m0 u7_0 u7_1 u7_2 u7_3 u7_4 u7_5 u7_6 u7_7 u7_8 u7_9 u7_10 u7_11 u7_12
  have e : cutAt (c8 N) a8 [1, 1, 1, 1, 0, 1, 0, 0, 1, 0, 0, 1, 1, 1, 1, 1, 1, 1, 0, 1, 0, 1, 0, 1] [m0] (codeOf Try.f8) (k8 N) (h8_7 u7_0 u7_1 u7_2 u7_3 u7_4 u7_5 u7_6 u7_7 u7_8 u7_9 u7_10 u7_11 u7_12) = m_ticketlinelaw16_PageHolds_l7_b (fun w0 w1 w2 w3 => loopAt (c8 N) a8 [1, 1, 1, 1, 0, 1, 0] [] (codeOf Try.f8) (k8 N) m0 (h8_0 w0 w1 w2 w3)) (fun w0 w1 w2 w3 w4 w5 w6 w7 w8 w9 w10 w11 => cutAt (c8 N) a8 [1, 1, 1, 1, 0, 1, 0, 0, 1, 0, 0, 1, 1, 1, 1, 1, 1, 1, 0, 1, 0, 1, 0, 1, 1] [m0] (codeOf Try.f8) (k8 N) (h8_8 w0 w1 w2 w3 w4 w5 w6 w7 w8 w9 w10 w11)) u7_0 u7_1 u7_2 u7_3 u7_4 u7_5 u7_6 u7_7 u7_8 u7_9 u7_10 u7_11 u7_12 := by kernel_rfl
  refine e.trans ?_
  have e8 : (fun w0 w1 w2 w3 w4 w5 w6 w7 w8 w9 w10 w11 => cutAt (c8 N) a8 [1, 1, 1, 1, 0, 1, 0, 0, 1, 0, 0, 1, 1, 1, 1, 1, 1, 1, 0, 1, 0, 1, 0, 1, 1] [m0] (codeOf Try.f8) (k8 N) (h8_8 w0 w1 w2 w3 w4 w5 w6 w7 w8 w9 w10 w11)) = m_ticketlinelaw16_PageHolds_l8 N (fun w0 w1 w2 w3 => loopAt (c8 N) a8 [1, 1, 1, 1, 0, 1, 0] [] (codeOf Try.f8) (k8 N) m0 (h8_0 w0 w1 w2 w3)) := by
    funext w0 w1 w2 w3 w4 w5 w6 w7 w8 w9 w10 w11; exact t8_8 N m0 w0 w1 w2 w3 w4 w5 w6 w7 w8 w9 w10 w11
  rw [e8]
  rfl
theorem t8_21 : ∀ (N : Nat) (m0 : Nat) (u21_0 : (List (Int × (Bool × (Int × (ByteArray × (ByteArray × Unit))))))) (u21_1 : Int) (u21_2 : Int) (u21_3 : Bool) (u21_4 : Int) (u21_5 : (List Int)) (u21_6 : (List (ByteArray × (ByteArray × Unit)))) (u21_7 : (List Int)), cutAt (c8 N) a8 [1, 1, 1, 1, 0, 1, 0, 0, 1, 0, 0, 1, 1, 1, 1, 1, 1, 1, 0, 1, 0, 1, 1, 1, 0, 1, 1, 1] [m0] (codeOf Try.f8) (k8 N) (h8_21 u21_0 u21_1 u21_2 u21_3 u21_4 u21_5 u21_6 u21_7) = m_ticketlinelaw16_PageHolds_l21 N (fun w0 w1 w2 w3 => loopAt (c8 N) a8 [1, 1, 1, 1, 0, 1, 0] [] (codeOf Try.f8) (k8 N) m0 (h8_0 w0 w1 w2 w3)) u21_0 u21_1 u21_2 u21_3 u21_4 u21_5 u21_6 u21_7 := by
  intro N m0 u21_0 u21_1 u21_2 u21_3 u21_4 u21_5 u21_6 u21_7
  have e : cutAt (c8 N) a8 [1, 1, 1, 1, 0, 1, 0, 0, 1, 0, 0, 1, 1, 1, 1, 1, 1, 1, 0, 1, 0, 1, 1, 1, 0, 1, 1, 1] [m0] (codeOf Try.f8) (k8 N) (h8_21 u21_0 u21_1 u21_2 u21_3 u21_4 u21_5 u21_6 u21_7) = m_ticketlinelaw16_PageHolds_l21_b (fun w0 w1 w2 w3 => loopAt (c8 N) a8 [1, 1, 1, 1, 0, 1, 0] [] (codeOf Try.f8) (k8 N) m0 (h8_0 w0 w1 w2 w3)) (fun w0 w1 w2 w3 => cutAt (c8 N) a8 [1, 1, 1, 1, 0, 1, 0, 0, 1, 1] [m0] (codeOf Try.f8) (k8 N) (h8_12 w0 w1 w2 w3)) (fun w0 w1 w2 w3 w4 => cutAt (c8 N) a8 [1, 1, 1, 1, 0, 1, 0, 0, 1, 0, 0, 1, 1, 1, 1, 1, 1, 1, 1, 1] [m0] (codeOf Try.f8) (k8 N) (h8_13 w0 w1 w2 w3 w4)) u21_0 u21_1 u21_2 u21_3 u21_4 u21_5 u21_6 u21_7 := by kernel_rfl
  refine e.trans ?_
  have e12 : (fun w0 w1 w2 w3 => cutAt (c8 N) a8 [1, 1, 1, 1, 0, 1, 0, 0, 1, 1] [m0] (codeOf Try.f8) (k8 N) (h8_12 w0 w1 w2 w3)) = m_ticketlinelaw16_PageHolds_l12 N (fun w0 w1 w2 w3 => loopAt (c8 N) a8 [1, 1, 1, 1, 0, 1, 0] [] (codeOf Try.f8) (k8 N) m0 (h8_0 w0 w1 w2 w3)) := by
    funext w0 w1 w2 w3; exact t8_12 N m0 w0 w1 w2 w3
  rw [e12]
  have e13 : (fun w0 w1 w2 w3 w4 => cutAt (c8 N) a8 [1, 1, 1, 1, 0, 1, 0, 0, 1, 0, 0, 1, 1, 1, 1, 1, 1, 1, 1, 1] [m0] (codeOf Try.f8) (k8 N) (h8_13 w0 w1 w2 w3 w4)) = m_ticketlinelaw16_PageHolds_l13 N (fun w0 w1 w2 w3 => loopAt (c8 N) a8 [1, 1, 1, 1, 0, 1, 0] [] (codeOf Try.f8) (k8 N) m0 (h8_0 w0 w1 w2 w3)) := by
    funext w0 w1 w2 w3 w4; exact t8_13 N m0 w0 w1 w2 w3 w4
  rw [e13]
  rfl
theorem t8_20 : ∀ (N : Nat) (m0 : Nat) (u20_0 : (List (Int × (Bool × (Int × (ByteArray × (ByteArray × Unit))))))) (u20_1 : Int) (u20_2 : Int) (u20_3 : Bool) (u20_4 : Int) (u20_5 : ByteArray) (u20_6 : (List Int)) (u20_7 : (List (ByteArray × (ByteArray × Unit)))) (u20_8 : (List Int)), cutAt (c8 N) a8 [1, 1, 1, 1, 0, 1, 0, 0, 1, 0, 0, 1, 1, 1, 1, 1, 1, 1, 0, 1, 0, 1, 1, 1, 0, 1, 1] [m0] (codeOf Try.f8) (k8 N) (h8_20 u20_0 u20_1 u20_2 u20_3 u20_4 u20_5 u20_6 u20_7 u20_8) = m_ticketlinelaw16_PageHolds_l20 N (fun w0 w1 w2 w3 => loopAt (c8 N) a8 [1, 1, 1, 1, 0, 1, 0] [] (codeOf Try.f8) (k8 N) m0 (h8_0 w0 w1 w2 w3)) u20_0 u20_1 u20_2 u20_3 u20_4 u20_5 u20_6 u20_7 u20_8 := by
  intro N m0 u20_0 u20_1 u20_2 u20_3 u20_4 u20_5 u20_6 u20_7 u20_8
  have e : cutAt (c8 N) a8 [1, 1, 1, 1, 0, 1, 0, 0, 1, 0, 0, 1, 1, 1, 1, 1, 1, 1, 0, 1, 0, 1, 1, 1, 0, 1, 1] [m0] (codeOf Try.f8) (k8 N) (h8_20 u20_0 u20_1 u20_2 u20_3 u20_4 u20_5 u20_6 u20_7 u20_8) = m_ticketlinelaw16_PageHolds_l20_b (fun w0 w1 w2 w3 => loopAt (c8 N) a8 [1, 1, 1, 1, 0, 1, 0] [] (codeOf Try.f8) (k8 N) m0 (h8_0 w0 w1 w2 w3)) (fun w0 w1 w2 w3 w4 w5 w6 w7 => cutAt (c8 N) a8 [1, 1, 1, 1, 0, 1, 0, 0, 1, 0, 0, 1, 1, 1, 1, 1, 1, 1, 0, 1, 0, 1, 1, 1, 0, 1, 1, 1] [m0] (codeOf Try.f8) (k8 N) (h8_21 w0 w1 w2 w3 w4 w5 w6 w7)) u20_0 u20_1 u20_2 u20_3 u20_4 u20_5 u20_6 u20_7 u20_8 := by kernel_rfl
  refine e.trans ?_
  have e21 : (fun w0 w1 w2 w3 w4 w5 w6 w7 => cutAt (c8 N) a8 [1, 1, 1, 1, 0, 1, 0, 0, 1, 0, 0, 1, 1, 1, 1, 1, 1, 1, 0, 1, 0, 1, 1, 1, 0, 1, 1, 1] [m0] (codeOf Try.f8) (k8 N) (h8_21 w0 w1 w2 w3 w4 w5 w6 w7)) = m_ticketlinelaw16_PageHolds_l21 N (fun w0 w1 w2 w3 => loopAt (c8 N) a8 [1, 1, 1, 1, 0, 1, 0] [] (codeOf Try.f8) (k8 N) m0 (h8_0 w0 w1 w2 w3)) := by
    funext w0 w1 w2 w3 w4 w5 w6 w7; exact t8_21 N m0 w0 w1 w2 w3 w4 w5 w6 w7
  rw [e21]
  rfl
theorem t8_19 : ∀ (N : Nat) (m0 : Nat) (u19_0 : (List (Int × (Bool × (Int × (ByteArray × (ByteArray × Unit))))))) (u19_1 : Int) (u19_2 : Int) (u19_3 : Bool) (u19_4 : (List Int)) (u19_5 : (List (ByteArray × (ByteArray × Unit)))) (u19_6 : Int) (u19_7 : Bool) (u19_8 : Int) (u19_9 : ByteArray) (u19_10 : ByteArray) (u19_11 : (List Int)), cutAt (c8 N) a8 [1, 1, 1, 1, 0, 1, 0, 0, 1, 0, 0, 1, 1, 1, 1, 1, 1, 1, 0, 1, 0, 1, 1, 1, 0, 1] [m0] (codeOf Try.f8) (k8 N) (h8_19 u19_0 u19_1 u19_2 u19_3 u19_4 u19_5 u19_6 u19_7 u19_8 u19_9 u19_10 u19_11) = m_ticketlinelaw16_PageHolds_l19 N (fun w0 w1 w2 w3 => loopAt (c8 N) a8 [1, 1, 1, 1, 0, 1, 0] [] (codeOf Try.f8) (k8 N) m0 (h8_0 w0 w1 w2 w3)) u19_0 u19_1 u19_2 u19_3 u19_4 u19_5 u19_6 u19_7 u19_8 u19_9 u19_10 u19_11 := by
  intro N m0 u19_0 u19_1 u19_2 u19_3 u19_4 u19_5 u19_6 u19_7 u19_8 u19_9 u19_10 u19_11
  have e : cutAt (c8 N) a8 [1, 1, 1, 1, 0, 1, 0, 0, 1, 0, 0, 1, 1, 1, 1, 1, 1, 1, 0, 1, 0, 1, 1, 1, 0, 1] [m0] (codeOf Try.f8) (k8 N) (h8_19 u19_0 u19_1 u19_2 u19_3 u19_4 u19_5 u19_6 u19_7 u19_8 u19_9 u19_10 u19_11) = m_ticketlinelaw16_PageHolds_l19_b (fun w0 w1 w2 w3 => loopAt (c8 N) a8 [1, 1, 1, 1, 0, 1, 0] [] (codeOf Try.f8) (k8 N) m0 (h8_0 w0 w1 w2 w3)) (fun w0 w1 w2 w3 w4 w5 w6 w7 w8 => cutAt (c8 N) a8 [1, 1, 1, 1, 0, 1, 0, 0, 1, 0, 0, 1, 1, 1, 1, 1, 1, 1, 0, 1, 0, 1, 1, 1, 0, 1, 1] [m0] (codeOf Try.f8) (k8 N) (h8_20 w0 w1 w2 w3 w4 w5 w6 w7 w8)) u19_0 u19_1 u19_2 u19_3 u19_4 u19_5 u19_6 u19_7 u19_8 u19_9 u19_10 u19_11 := by kernel_rfl
  refine e.trans ?_
  have e20 : (fun w0 w1 w2 w3 w4 w5 w6 w7 w8 => cutAt (c8 N) a8 [1, 1, 1, 1, 0, 1, 0, 0, 1, 0, 0, 1, 1, 1, 1, 1, 1, 1, 0, 1, 0, 1, 1, 1, 0, 1, 1] [m0] (codeOf Try.f8) (k8 N) (h8_20 w0 w1 w2 w3 w4 w5 w6 w7 w8)) = m_ticketlinelaw16_PageHolds_l20 N (fun w0 w1 w2 w3 => loopAt (c8 N) a8 [1, 1, 1, 1, 0, 1, 0] [] (codeOf Try.f8) (k8 N) m0 (h8_0 w0 w1 w2 w3)) := by
    funext w0 w1 w2 w3 w4 w5 w6 w7 w8; exact t8_20 N m0 w0 w1 w2 w3 w4 w5 w6 w7 w8
  rw [e20]
  rfl
theorem t8_23 : ∀ (N : Nat) (m0 : Nat) (u23_0 : (List (Int × (Bool × (Int × (ByteArray × (ByteArray × Unit))))))) (u23_1 : Int) (u23_2 : Int) (u23_3 : (List Int)) (u23_4 : (List (ByteArray × (ByteArray × Unit)))) (u23_5 : (List Int)), cutAt (c8 N) a8 [1, 1, 1, 1, 0, 1, 0, 0, 1, 0, 0, 1, 1, 1, 1, 1, 1, 1, 0, 1, 0, 1, 1, 1, 1, 1, 1] [m0] (codeOf Try.f8) (k8 N) (h8_23 u23_0 u23_1 u23_2 u23_3 u23_4 u23_5) = m_ticketlinelaw16_PageHolds_l23 N (fun w0 w1 w2 w3 => loopAt (c8 N) a8 [1, 1, 1, 1, 0, 1, 0] [] (codeOf Try.f8) (k8 N) m0 (h8_0 w0 w1 w2 w3)) u23_0 u23_1 u23_2 u23_3 u23_4 u23_5 := by
  intro N m0 u23_0 u23_1 u23_2 u23_3 u23_4 u23_5
  have e : cutAt (c8 N) a8 [1, 1, 1, 1, 0, 1, 0, 0, 1, 0, 0, 1, 1, 1, 1, 1, 1, 1, 0, 1, 0, 1, 1, 1, 1, 1, 1] [m0] (codeOf Try.f8) (k8 N) (h8_23 u23_0 u23_1 u23_2 u23_3 u23_4 u23_5) = m_ticketlinelaw16_PageHolds_l23_b (fun w0 w1 w2 w3 => loopAt (c8 N) a8 [1, 1, 1, 1, 0, 1, 0] [] (codeOf Try.f8) (k8 N) m0 (h8_0 w0 w1 w2 w3)) (fun w0 w1 w2 w3 => cutAt (c8 N) a8 [1, 1, 1, 1, 0, 1, 0, 0, 1, 1] [m0] (codeOf Try.f8) (k8 N) (h8_12 w0 w1 w2 w3)) (fun w0 w1 w2 w3 w4 => cutAt (c8 N) a8 [1, 1, 1, 1, 0, 1, 0, 0, 1, 0, 0, 1, 1, 1, 1, 1, 1, 1, 1, 1] [m0] (codeOf Try.f8) (k8 N) (h8_13 w0 w1 w2 w3 w4)) u23_0 u23_1 u23_2 u23_3 u23_4 u23_5 := by kernel_rfl
  refine e.trans ?_
  have e12 : (fun w0 w1 w2 w3 => cutAt (c8 N) a8 [1, 1, 1, 1, 0, 1, 0, 0, 1, 1] [m0] (codeOf Try.f8) (k8 N) (h8_12 w0 w1 w2 w3)) = m_ticketlinelaw16_PageHolds_l12 N (fun w0 w1 w2 w3 => loopAt (c8 N) a8 [1, 1, 1, 1, 0, 1, 0] [] (codeOf Try.f8) (k8 N) m0 (h8_0 w0 w1 w2 w3)) := by
    funext w0 w1 w2 w3; exact t8_12 N m0 w0 w1 w2 w3
  rw [e12]
  have e13 : (fun w0 w1 w2 w3 w4 => cutAt (c8 N) a8 [1, 1, 1, 1, 0, 1, 0, 0, 1, 0, 0, 1, 1, 1, 1, 1, 1, 1, 1, 1] [m0] (codeOf Try.f8) (k8 N) (h8_13 w0 w1 w2 w3 w4)) = m_ticketlinelaw16_PageHolds_l13 N (fun w0 w1 w2 w3 => loopAt (c8 N) a8 [1, 1, 1, 1, 0, 1, 0] [] (codeOf Try.f8) (k8 N) m0 (h8_0 w0 w1 w2 w3)) := by
    funext w0 w1 w2 w3 w4; exact t8_13 N m0 w0 w1 w2 w3 w4
  rw [e13]
  rfl
theorem t8_22 : ∀ (N : Nat) (m0 : Nat) (u22_0 : (List (Int × (Bool × (Int × (ByteArray × (ByteArray × Unit))))))) (u22_1 : Int) (u22_2 : (List Int)) (u22_3 : (List (ByteArray × (ByteArray × Unit)))) (u22_4 : (List Int)), cutAt (c8 N) a8 [1, 1, 1, 1, 0, 1, 0, 0, 1, 0, 0, 1, 1, 1, 1, 1, 1, 1, 0, 1, 0, 1, 1, 1, 1, 1] [m0] (codeOf Try.f8) (k8 N) (h8_22 u22_0 u22_1 u22_2 u22_3 u22_4) = m_ticketlinelaw16_PageHolds_l22 N (fun w0 w1 w2 w3 => loopAt (c8 N) a8 [1, 1, 1, 1, 0, 1, 0] [] (codeOf Try.f8) (k8 N) m0 (h8_0 w0 w1 w2 w3)) u22_0 u22_1 u22_2 u22_3 u22_4 := by
  intro N m0 u22_0 u22_1 u22_2 u22_3 u22_4
  have e : cutAt (c8 N) a8 [1, 1, 1, 1, 0, 1, 0, 0, 1, 0, 0, 1, 1, 1, 1, 1, 1, 1, 0, 1, 0, 1, 1, 1, 1, 1] [m0] (codeOf Try.f8) (k8 N) (h8_22 u22_0 u22_1 u22_2 u22_3 u22_4) = m_ticketlinelaw16_PageHolds_l22_b (fun w0 w1 w2 w3 => loopAt (c8 N) a8 [1, 1, 1, 1, 0, 1, 0] [] (codeOf Try.f8) (k8 N) m0 (h8_0 w0 w1 w2 w3)) (fun w0 w1 w2 w3 w4 w5 => cutAt (c8 N) a8 [1, 1, 1, 1, 0, 1, 0, 0, 1, 0, 0, 1, 1, 1, 1, 1, 1, 1, 0, 1, 0, 1, 1, 1, 1, 1, 1] [m0] (codeOf Try.f8) (k8 N) (h8_23 w0 w1 w2 w3 w4 w5)) u22_0 u22_1 u22_2 u22_3 u22_4 := by kernel_rfl
  refine e.trans ?_
  have e23 : (fun w0 w1 w2 w3 w4 w5 => cutAt (c8 N) a8 [1, 1, 1, 1, 0, 1, 0, 0, 1, 0, 0, 1, 1, 1, 1, 1, 1, 1, 0, 1, 0, 1, 1, 1, 1, 1, 1] [m0] (codeOf Try.f8) (k8 N) (h8_23 w0 w1 w2 w3 w4 w5)) = m_ticketlinelaw16_PageHolds_l23 N (fun w0 w1 w2 w3 => loopAt (c8 N) a8 [1, 1, 1, 1, 0, 1, 0] [] (codeOf Try.f8) (k8 N) m0 (h8_0 w0 w1 w2 w3)) := by
    funext w0 w1 w2 w3 w4 w5; exact t8_23 N m0 w0 w1 w2 w3 w4 w5
  rw [e23]
  rfl
theorem t8_6 : ∀ (N : Nat) (m0 : Nat) (u6_0 : (List (Int × (Bool × (Int × (ByteArray × (ByteArray × Unit))))))) (u6_1 : Int) (u6_2 : Int) (u6_3 : Bool) (u6_4 : Int) (u6_5 : (List Int)) (u6_6 : (List (ByteArray × (ByteArray × Unit)))) (u6_7 : Int) (u6_8 : Bool) (u6_9 : Int) (u6_10 : ByteArray) (u6_11 : ByteArray) (u6_12 : (List Int)), cutAt (c8 N) a8 [1, 1, 1, 1, 0, 1, 0, 0, 1, 0, 0, 1, 1, 1, 1, 1, 1, 1, 0, 1] [m0] (codeOf Try.f8) (k8 N) (h8_6 u6_0 u6_1 u6_2 u6_3 u6_4 u6_5 u6_6 u6_7 u6_8 u6_9 u6_10 u6_11 u6_12) = m_ticketlinelaw16_PageHolds_l6 N (fun w0 w1 w2 w3 => loopAt (c8 N) a8 [1, 1, 1, 1, 0, 1, 0] [] (codeOf Try.f8) (k8 N) m0 (h8_0 w0 w1 w2 w3)) u6_0 u6_1 u6_2 u6_3 u6_4 u6_5 u6_6 u6_7 u6_8 u6_9 u6_10 u6_11 u6_12 := by
  intro N m0 u6_0 u6_1 u6_2 u6_3 u6_4 u6_5 u6_6 u6_7 u6_8 u6_9 u6_10 u6_11 u6_12
  have e : cutAt (c8 N) a8 [1, 1, 1, 1, 0, 1, 0, 0, 1, 0, 0, 1, 1, 1, 1, 1, 1, 1, 0, 1] [m0] (codeOf Try.f8) (k8 N) (h8_6 u6_0 u6_1 u6_2 u6_3 u6_4 u6_5 u6_6 u6_7 u6_8 u6_9 u6_10 u6_11 u6_12) = m_ticketlinelaw16_PageHolds_l6_b (fun w0 w1 w2 w3 => loopAt (c8 N) a8 [1, 1, 1, 1, 0, 1, 0] [] (codeOf Try.f8) (k8 N) m0 (h8_0 w0 w1 w2 w3)) (fun w0 w1 w2 w3 w4 w5 w6 w7 w8 w9 w10 w11 w12 => cutAt (c8 N) a8 [1, 1, 1, 1, 0, 1, 0, 0, 1, 0, 0, 1, 1, 1, 1, 1, 1, 1, 0, 1, 0, 1, 0, 1] [m0] (codeOf Try.f8) (k8 N) (h8_7 w0 w1 w2 w3 w4 w5 w6 w7 w8 w9 w10 w11 w12)) (fun w0 w1 w2 w3 w4 w5 w6 w7 w8 w9 w10 w11 => cutAt (c8 N) a8 [1, 1, 1, 1, 0, 1, 0, 0, 1, 0, 0, 1, 1, 1, 1, 1, 1, 1, 0, 1, 0, 1, 1, 1, 0, 1] [m0] (codeOf Try.f8) (k8 N) (h8_19 w0 w1 w2 w3 w4 w5 w6 w7 w8 w9 w10 w11)) (fun w0 w1 w2 w3 w4 => cutAt (c8 N) a8 [1, 1, 1, 1, 0, 1, 0, 0, 1, 0, 0, 1, 1, 1, 1, 1, 1, 1, 0, 1, 0, 1, 1, 1, 1, 1] [m0] (codeOf Try.f8) (k8 N) (h8_22 w0 w1 w2 w3 w4)) u6_0 u6_1 u6_2 u6_3 u6_4 u6_5 u6_6 u6_7 u6_8 u6_9 u6_10 u6_11 u6_12 := by kernel_rfl
  refine e.trans ?_
  have e7 : (fun w0 w1 w2 w3 w4 w5 w6 w7 w8 w9 w10 w11 w12 => cutAt (c8 N) a8 [1, 1, 1, 1, 0, 1, 0, 0, 1, 0, 0, 1, 1, 1, 1, 1, 1, 1, 0, 1, 0, 1, 0, 1] [m0] (codeOf Try.f8) (k8 N) (h8_7 w0 w1 w2 w3 w4 w5 w6 w7 w8 w9 w10 w11 w12)) = m_ticketlinelaw16_PageHolds_l7 N (fun w0 w1 w2 w3 => loopAt (c8 N) a8 [1, 1, 1, 1, 0, 1, 0] [] (codeOf Try.f8) (k8 N) m0 (h8_0 w0 w1 w2 w3)) := by
    funext w0 w1 w2 w3 w4 w5 w6 w7 w8 w9 w10 w11 w12; exact t8_7 N m0 w0 w1 w2 w3 w4 w5 w6 w7 w8 w9 w10 w11 w12
  rw [e7]
  have e19 : (fun w0 w1 w2 w3 w4 w5 w6 w7 w8 w9 w10 w11 => cutAt (c8 N) a8 [1, 1, 1, 1, 0, 1, 0, 0, 1, 0, 0, 1, 1, 1, 1, 1, 1, 1, 0, 1, 0, 1, 1, 1, 0, 1] [m0] (codeOf Try.f8) (k8 N) (h8_19 w0 w1 w2 w3 w4 w5 w6 w7 w8 w9 w10 w11)) = m_ticketlinelaw16_PageHolds_l19 N (fun w0 w1 w2 w3 => loopAt (c8 N) a8 [1, 1, 1, 1, 0, 1, 0] [] (codeOf Try.f8) (k8 N) m0 (h8_0 w0 w1 w2 w3)) := by
    funext w0 w1 w2 w3 w4 w5 w6 w7 w8 w9 w10 w11; exact t8_19 N m0 w0 w1 w2 w3 w4 w5 w6 w7 w8 w9 w10 w11
  rw [e19]
  have e22 : (fun w0 w1 w2 w3 w4 => cutAt (c8 N) a8 [1, 1, 1, 1, 0, 1, 0, 0, 1, 0, 0, 1, 1, 1, 1, 1, 1, 1, 0, 1, 0, 1, 1, 1, 1, 1] [m0] (codeOf Try.f8) (k8 N) (h8_22 w0 w1 w2 w3 w4)) = m_ticketlinelaw16_PageHolds_l22 N (fun w0 w1 w2 w3 => loopAt (c8 N) a8 [1, 1, 1, 1, 0, 1, 0] [] (codeOf Try.f8) (k8 N) m0 (h8_0 w0 w1 w2 w3)) := by
    funext w0 w1 w2 w3 w4; exact t8_22 N m0 w0 w1 w2 w3 w4
  rw [e22]
  rfl
theorem t8_5 : ∀ (N : Nat) (m0 : Nat) (u5_0 : (List (Int × (Bool × (Int × (ByteArray × (ByteArray × Unit))))))) (u5_1 : Int) (u5_2 : Int) (u5_3 : Bool) (u5_4 : (List Int)) (u5_5 : (List (ByteArray × (ByteArray × Unit)))) (u5_6 : Int) (u5_7 : Bool) (u5_8 : Int) (u5_9 : ByteArray) (u5_10 : ByteArray) (u5_11 : (List Int)), cutAt (c8 N) a8 [1, 1, 1, 1, 0, 1, 0, 0, 1, 0, 0, 1, 1, 1, 1, 1, 1, 1] [m0] (codeOf Try.f8) (k8 N) (h8_5 u5_0 u5_1 u5_2 u5_3 u5_4 u5_5 u5_6 u5_7 u5_8 u5_9 u5_10 u5_11) = m_ticketlinelaw16_PageHolds_l5 N (fun w0 w1 w2 w3 => loopAt (c8 N) a8 [1, 1, 1, 1, 0, 1, 0] [] (codeOf Try.f8) (k8 N) m0 (h8_0 w0 w1 w2 w3)) u5_0 u5_1 u5_2 u5_3 u5_4 u5_5 u5_6 u5_7 u5_8 u5_9 u5_10 u5_11 := by
  intro N m0 u5_0 u5_1 u5_2 u5_3 u5_4 u5_5 u5_6 u5_7 u5_8 u5_9 u5_10 u5_11
  have e : cutAt (c8 N) a8 [1, 1, 1, 1, 0, 1, 0, 0, 1, 0, 0, 1, 1, 1, 1, 1, 1, 1] [m0] (codeOf Try.f8) (k8 N) (h8_5 u5_0 u5_1 u5_2 u5_3 u5_4 u5_5 u5_6 u5_7 u5_8 u5_9 u5_10 u5_11) = m_ticketlinelaw16_PageHolds_l5_b (fun w0 w1 w2 w3 => loopAt (c8 N) a8 [1, 1, 1, 1, 0, 1, 0] [] (codeOf Try.f8) (k8 N) m0 (h8_0 w0 w1 w2 w3)) (fun w0 w1 w2 w3 w4 w5 w6 w7 w8 w9 w10 w11 w12 => cutAt (c8 N) a8 [1, 1, 1, 1, 0, 1, 0, 0, 1, 0, 0, 1, 1, 1, 1, 1, 1, 1, 0, 1] [m0] (codeOf Try.f8) (k8 N) (h8_6 w0 w1 w2 w3 w4 w5 w6 w7 w8 w9 w10 w11 w12)) u5_0 u5_1 u5_2 u5_3 u5_4 u5_5 u5_6 u5_7 u5_8 u5_9 u5_10 u5_11 := by kernel_rfl
  refine e.trans ?_
  have e6 : (fun w0 w1 w2 w3 w4 w5 w6 w7 w8 w9 w10 w11 w12 => cutAt (c8 N) a8 [1, 1, 1, 1, 0, 1, 0, 0, 1, 0, 0, 1, 1, 1, 1, 1, 1, 1, 0, 1] [m0] (codeOf Try.f8) (k8 N) (h8_6 w0 w1 w2 w3 w4 w5 w6 w7 w8 w9 w10 w11 w12)) = m_ticketlinelaw16_PageHolds_l6 N (fun w0 w1 w2 w3 => loopAt (c8 N) a8 [1, 1, 1, 1, 0, 1, 0] [] (codeOf Try.f8) (k8 N) m0 (h8_0 w0 w1 w2 w3)) := by
    funext w0 w1 w2 w3 w4 w5 w6 w7 w8 w9 w10 w11 w12; exact t8_6 N m0 w0 w1 w2 w3 w4 w5 w6 w7 w8 w9 w10 w11 w12
  rw [e6]
  rfl
theorem t8_4 : ∀ (N : Nat) (m0 : Nat) (u4_0 : (List (Int × (Bool × (Int × (ByteArray × (ByteArray × Unit))))))) (u4_1 : Int) (u4_2 : Int) (u4_3 : Bool) (u4_4 : (List Int)) (u4_5 : (List (ByteArray × (ByteArray × Unit)))) (u4_6 : Int) (u4_7 : Bool) (u4_8 : Int) (u4_9 : ByteArray) (u4_10 : ByteArray) (u4_11 : (List Int)), cutAt (c8 N) a8 [1, 1, 1, 1, 0, 1, 0, 0, 1, 0, 0, 1, 1, 1, 1, 1, 1] [m0] (codeOf Try.f8) (k8 N) (h8_4 u4_0 u4_1 u4_2 u4_3 u4_4 u4_5 u4_6 u4_7 u4_8 u4_9 u4_10 u4_11) = m_ticketlinelaw16_PageHolds_l4 N (fun w0 w1 w2 w3 => loopAt (c8 N) a8 [1, 1, 1, 1, 0, 1, 0] [] (codeOf Try.f8) (k8 N) m0 (h8_0 w0 w1 w2 w3)) u4_0 u4_1 u4_2 u4_3 u4_4 u4_5 u4_6 u4_7 u4_8 u4_9 u4_10 u4_11 := by
  intro N m0 u4_0 u4_1 u4_2 u4_3 u4_4 u4_5 u4_6 u4_7 u4_8 u4_9 u4_10 u4_11
  have e : cutAt (c8 N) a8 [1, 1, 1, 1, 0, 1, 0, 0, 1, 0, 0, 1, 1, 1, 1, 1, 1] [m0] (codeOf Try.f8) (k8 N) (h8_4 u4_0 u4_1 u4_2 u4_3 u4_4 u4_5 u4_6 u4_7 u4_8 u4_9 u4_10 u4_11) = m_ticketlinelaw16_PageHolds_l4_b (fun w0 w1 w2 w3 => loopAt (c8 N) a8 [1, 1, 1, 1, 0, 1, 0] [] (codeOf Try.f8) (k8 N) m0 (h8_0 w0 w1 w2 w3)) (fun w0 w1 w2 w3 w4 w5 w6 w7 w8 w9 w10 w11 => cutAt (c8 N) a8 [1, 1, 1, 1, 0, 1, 0, 0, 1, 0, 0, 1, 1, 1, 1, 1, 1, 1] [m0] (codeOf Try.f8) (k8 N) (h8_5 w0 w1 w2 w3 w4 w5 w6 w7 w8 w9 w10 w11)) u4_0 u4_1 u4_2 u4_3 u4_4 u4_5 u4_6 u4_7 u4_8 u4_9 u4_10 u4_11 := by kernel_rfl
  refine e.trans ?_
  have e5 : (fun w0 w1 w2 w3 w4 w5 w6 w7 w8 w9 w10 w11 => cutAt (c8 N) a8 [1, 1, 1, 1, 0, 1, 0, 0, 1, 0, 0, 1, 1, 1, 1, 1, 1, 1] [m0] (codeOf Try.f8) (k8 N) (h8_5 w0 w1 w2 w3 w4 w5 w6 w7 w8 w9 w10 w11)) = m_ticketlinelaw16_PageHolds_l5 N (fun w0 w1 w2 w3 => loopAt (c8 N) a8 [1, 1, 1, 1, 0, 1, 0] [] (codeOf Try.f8) (k8 N) m0 (h8_0 w0 w1 w2 w3)) := by
    funext w0 w1 w2 w3 w4 w5 w6 w7 w8 w9 w10 w11; exact t8_5 N m0 w0 w1 w2 w3 w4 w5 w6 w7 w8 w9 w10 w11
  rw [e5]
  rfl
theorem t8_3 : ∀ (N : Nat) (m0 : Nat) (u3_0 : (List (Int × (Bool × (Int × (ByteArray × (ByteArray × Unit))))))) (u3_1 : Int) (u3_2 : Int) (u3_3 : Bool) (u3_4 : (List Int)) (u3_5 : (List (ByteArray × (ByteArray × Unit)))) (u3_6 : Int) (u3_7 : Bool) (u3_8 : Int) (u3_9 : ByteArray) (u3_10 : ByteArray), cutAt (c8 N) a8 [1, 1, 1, 1, 0, 1, 0, 0, 1, 0, 0, 1, 1, 1, 1, 1] [m0] (codeOf Try.f8) (k8 N) (h8_3 u3_0 u3_1 u3_2 u3_3 u3_4 u3_5 u3_6 u3_7 u3_8 u3_9 u3_10) = m_ticketlinelaw16_PageHolds_l3 N (fun w0 w1 w2 w3 => loopAt (c8 N) a8 [1, 1, 1, 1, 0, 1, 0] [] (codeOf Try.f8) (k8 N) m0 (h8_0 w0 w1 w2 w3)) u3_0 u3_1 u3_2 u3_3 u3_4 u3_5 u3_6 u3_7 u3_8 u3_9 u3_10 := by
  intro N m0 u3_0 u3_1 u3_2 u3_3 u3_4 u3_5 u3_6 u3_7 u3_8 u3_9 u3_10
  have e : cutAt (c8 N) a8 [1, 1, 1, 1, 0, 1, 0, 0, 1, 0, 0, 1, 1, 1, 1, 1] [m0] (codeOf Try.f8) (k8 N) (h8_3 u3_0 u3_1 u3_2 u3_3 u3_4 u3_5 u3_6 u3_7 u3_8 u3_9 u3_10) = m_ticketlinelaw16_PageHolds_l3_b (fun w0 w1 w2 w3 => loopAt (c8 N) a8 [1, 1, 1, 1, 0, 1, 0] [] (codeOf Try.f8) (k8 N) m0 (h8_0 w0 w1 w2 w3)) (fun w0 w1 w2 w3 w4 w5 w6 w7 w8 w9 w10 w11 => cutAt (c8 N) a8 [1, 1, 1, 1, 0, 1, 0, 0, 1, 0, 0, 1, 1, 1, 1, 1, 1] [m0] (codeOf Try.f8) (k8 N) (h8_4 w0 w1 w2 w3 w4 w5 w6 w7 w8 w9 w10 w11)) u3_0 u3_1 u3_2 u3_3 u3_4 u3_5 u3_6 u3_7 u3_8 u3_9 u3_10 := by kernel_rfl
  refine e.trans ?_
  have e4 : (fun w0 w1 w2 w3 w4 w5 w6 w7 w8 w9 w10 w11 => cutAt (c8 N) a8 [1, 1, 1, 1, 0, 1, 0, 0, 1, 0, 0, 1, 1, 1, 1, 1, 1] [m0] (codeOf Try.f8) (k8 N) (h8_4 w0 w1 w2 w3 w4 w5 w6 w7 w8 w9 w10 w11)) = m_ticketlinelaw16_PageHolds_l4 N (fun w0 w1 w2 w3 => loopAt (c8 N) a8 [1, 1, 1, 1, 0, 1, 0] [] (codeOf Try.f8) (k8 N) m0 (h8_0 w0 w1 w2 w3)) := by
    funext w0 w1 w2 w3 w4 w5 w6 w7 w8 w9 w10 w11; exact t8_4 N m0 w0 w1 w2 w3 w4 w5 w6 w7 w8 w9 w10 w11
  rw [e4]
  rfl
theorem t8_2 : ∀ (N : Nat) (m0 : Nat) (u2_0 : (List (Int × (Bool × (Int × (ByteArray × (ByteArray × Unit))))))) (u2_1 : Int) (u2_2 : Int) (u2_3 : Bool) (u2_4 : (List Int)) (u2_5 : (List (ByteArray × (ByteArray × Unit)))) (u2_6 : Int) (u2_7 : Bool) (u2_8 : Int) (u2_9 : ByteArray) (u2_10 : ByteArray), cutAt (c8 N) a8 [1, 1, 1, 1, 0, 1, 0, 0, 1, 0, 0, 1, 1, 1, 1] [m0] (codeOf Try.f8) (k8 N) (h8_2 u2_0 u2_1 u2_2 u2_3 u2_4 u2_5 u2_6 u2_7 u2_8 u2_9 u2_10) = m_ticketlinelaw16_PageHolds_l2 N (fun w0 w1 w2 w3 => loopAt (c8 N) a8 [1, 1, 1, 1, 0, 1, 0] [] (codeOf Try.f8) (k8 N) m0 (h8_0 w0 w1 w2 w3)) u2_0 u2_1 u2_2 u2_3 u2_4 u2_5 u2_6 u2_7 u2_8 u2_9 u2_10 := by
  intro N m0 u2_0 u2_1 u2_2 u2_3 u2_4 u2_5 u2_6 u2_7 u2_8 u2_9 u2_10
  have e : cutAt (c8 N) a8 [1, 1, 1, 1, 0, 1, 0, 0, 1, 0, 0, 1, 1, 1, 1] [m0] (codeOf Try.f8) (k8 N) (h8_2 u2_0 u2_1 u2_2 u2_3 u2_4 u2_5 u2_6 u2_7 u2_8 u2_9 u2_10) = m_ticketlinelaw16_PageHolds_l2_b (fun w0 w1 w2 w3 => loopAt (c8 N) a8 [1, 1, 1, 1, 0, 1, 0] [] (codeOf Try.f8) (k8 N) m0 (h8_0 w0 w1 w2 w3)) (fun w0 w1 w2 w3 w4 w5 w6 w7 w8 w9 w10 => cutAt (c8 N) a8 [1, 1, 1, 1, 0, 1, 0, 0, 1, 0, 0, 1, 1, 1, 1, 1] [m0] (codeOf Try.f8) (k8 N) (h8_3 w0 w1 w2 w3 w4 w5 w6 w7 w8 w9 w10)) u2_0 u2_1 u2_2 u2_3 u2_4 u2_5 u2_6 u2_7 u2_8 u2_9 u2_10 := by kernel_rfl
  refine e.trans ?_
  have e3 : (fun w0 w1 w2 w3 w4 w5 w6 w7 w8 w9 w10 => cutAt (c8 N) a8 [1, 1, 1, 1, 0, 1, 0, 0, 1, 0, 0, 1, 1, 1, 1, 1] [m0] (codeOf Try.f8) (k8 N) (h8_3 w0 w1 w2 w3 w4 w5 w6 w7 w8 w9 w10)) = m_ticketlinelaw16_PageHolds_l3 N (fun w0 w1 w2 w3 => loopAt (c8 N) a8 [1, 1, 1, 1, 0, 1, 0] [] (codeOf Try.f8) (k8 N) m0 (h8_0 w0 w1 w2 w3)) := by
    funext w0 w1 w2 w3 w4 w5 w6 w7 w8 w9 w10; exact t8_3 N m0 w0 w1 w2 w3 w4 w5 w6 w7 w8 w9 w10
  rw [e3]
  rfl
theorem t8_1 : ∀ (N : Nat) (m0 : Nat) (u1_0 : (List (Int × (Bool × (Int × (ByteArray × (ByteArray × Unit))))))) (u1_1 : Int) (u1_2 : (List Int)) (u1_3 : (List (ByteArray × (ByteArray × Unit)))) (u1_4 : Int) (u1_5 : Bool) (u1_6 : Int) (u1_7 : ByteArray) (u1_8 : ByteArray), cutAt (c8 N) a8 [1, 1, 1, 1, 0, 1, 0, 0, 1, 0, 0, 1, 1, 1] [m0] (codeOf Try.f8) (k8 N) (h8_1 u1_0 u1_1 u1_2 u1_3 u1_4 u1_5 u1_6 u1_7 u1_8) = m_ticketlinelaw16_PageHolds_l1 N (fun w0 w1 w2 w3 => loopAt (c8 N) a8 [1, 1, 1, 1, 0, 1, 0] [] (codeOf Try.f8) (k8 N) m0 (h8_0 w0 w1 w2 w3)) u1_0 u1_1 u1_2 u1_3 u1_4 u1_5 u1_6 u1_7 u1_8 := by
  intro N m0 u1_0 u1_1 u1_2 u1_3 u1_4 u1_5 u1_6 u1_7 u1_8
  have e : cutAt (c8 N) a8 [1, 1, 1, 1, 0, 1, 0, 0, 1, 0, 0, 1, 1, 1] [m0] (codeOf Try.f8) (k8 N) (h8_1 u1_0 u1_1 u1_2 u1_3 u1_4 u1_5 u1_6 u1_7 u1_8) = m_ticketlinelaw16_PageHolds_l1_b (fun w0 w1 w2 w3 => loopAt (c8 N) a8 [1, 1, 1, 1, 0, 1, 0] [] (codeOf Try.f8) (k8 N) m0 (h8_0 w0 w1 w2 w3)) (fun w0 w1 w2 w3 w4 w5 w6 w7 w8 w9 w10 => cutAt (c8 N) a8 [1, 1, 1, 1, 0, 1, 0, 0, 1, 0, 0, 1, 1, 1, 1] [m0] (codeOf Try.f8) (k8 N) (h8_2 w0 w1 w2 w3 w4 w5 w6 w7 w8 w9 w10)) u1_0 u1_1 u1_2 u1_3 u1_4 u1_5 u1_6 u1_7 u1_8 := by kernel_rfl
  refine e.trans ?_
  have e2 : (fun w0 w1 w2 w3 w4 w5 w6 w7 w8 w9 w10 => cutAt (c8 N) a8 [1, 1, 1, 1, 0, 1, 0, 0, 1, 0, 0, 1, 1, 1, 1] [m0] (codeOf Try.f8) (k8 N) (h8_2 w0 w1 w2 w3 w4 w5 w6 w7 w8 w9 w10)) = m_ticketlinelaw16_PageHolds_l2 N (fun w0 w1 w2 w3 => loopAt (c8 N) a8 [1, 1, 1, 1, 0, 1, 0] [] (codeOf Try.f8) (k8 N) m0 (h8_0 w0 w1 w2 w3)) := by
    funext w0 w1 w2 w3 w4 w5 w6 w7 w8 w9 w10; exact t8_2 N m0 w0 w1 w2 w3 w4 w5 w6 w7 w8 w9 w10
  rw [e2]
  rfl
theorem t8_0 : ∀ (N : Nat) (n : Nat) (u0_0 : (List (Int × (Bool × (Int × (ByteArray × (ByteArray × Unit))))))) (u0_1 : Int) (u0_2 : (List Int)) (u0_3 : (List (ByteArray × (ByteArray × Unit)))), loopAt (c8 N) a8 [1, 1, 1, 1, 0, 1, 0] [] (codeOf Try.f8) (k8 N) n (h8_0 u0_0 u0_1 u0_2 u0_3) = m_ticketlinelaw16_PageHolds_l0 N n u0_0 u0_1 u0_2 u0_3 := by
  intro N n
  induction n with
  | zero => intro u0_0 u0_1 u0_2 u0_3; kernel_rfl
  | succ n ih =>
    intro u0_0 u0_1 u0_2 u0_3
    have e : loopAt (c8 N) a8 [1, 1, 1, 1, 0, 1, 0] [] (codeOf Try.f8) (k8 N) (n + 1) (h8_0 u0_0 u0_1 u0_2 u0_3) = m_ticketlinelaw16_PageHolds_l0_b (fun w0 w1 w2 w3 => loopAt (c8 N) a8 [1, 1, 1, 1, 0, 1, 0] [] (codeOf Try.f8) (k8 N) n (h8_0 w0 w1 w2 w3)) (fun w0 w1 w2 w3 w4 w5 w6 w7 w8 => cutAt (c8 N) a8 [1, 1, 1, 1, 0, 1, 0, 0, 1, 0, 0, 1, 1, 1] [n] (codeOf Try.f8) (k8 N) (h8_1 w0 w1 w2 w3 w4 w5 w6 w7 w8)) u0_0 u0_1 u0_2 u0_3 := by kernel_rfl
    refine e.trans ?_
    have e1 : (fun w0 w1 w2 w3 w4 w5 w6 w7 w8 => cutAt (c8 N) a8 [1, 1, 1, 1, 0, 1, 0, 0, 1, 0, 0, 1, 1, 1] [n] (codeOf Try.f8) (k8 N) (h8_1 w0 w1 w2 w3 w4 w5 w6 w7 w8)) = m_ticketlinelaw16_PageHolds_l1 N (fun w0 w1 w2 w3 => loopAt (c8 N) a8 [1, 1, 1, 1, 0, 1, 0] [] (codeOf Try.f8) (k8 N) n (h8_0 w0 w1 w2 w3)) := by
      funext w0 w1 w2 w3 w4 w5 w6 w7 w8; exact t8_1 N n w0 w1 w2 w3 w4 w5 w6 w7 w8
    rw [e1]
    have es : (fun w0 w1 w2 w3 => loopAt (c8 N) a8 [1, 1, 1, 1, 0, 1, 0] [] (codeOf Try.f8) (k8 N) n (h8_0 w0 w1 w2 w3)) = m_ticketlinelaw16_PageHolds_l0 N n := by
      funext w0 w1 w2 w3; exact ih w0 w1 w2 w3
    rw [es]
    rw [m_ticketlinelaw16_PageHolds_l0]
theorem ew8 : ∀ (N : Nat) (x : g8.ps.den), evalFn (c8 N) an8 Try.f8 (codeOf Try.f8) g8 x (fun p => p.1.1) = m_ticketlinelaw16_PageHolds_a (m_ticketlinelaw16_PageHolds_l0 N N) x.1 x.2.1 := by
  intro N
  intro x
  obtain ⟨x0, x1, xu⟩ := x
  have e : evalFn (c8 N) an8 Try.f8 (codeOf Try.f8) g8 (x0, x1, xu) (fun p => p.1.1) = m_ticketlinelaw16_PageHolds_a (fun w0 w1 w2 w3 => loopAt (c8 N) a8 [1, 1, 1, 1, 0, 1, 0] [] (codeOf Try.f8) (k8 N) N (h8_0 w0 w1 w2 w3)) x0 x1 := by kernel_rfl
  refine e.trans ?_
  have e0 : (fun w0 w1 w2 w3 => loopAt (c8 N) a8 [1, 1, 1, 1, 0, 1, 0] [] (codeOf Try.f8) (k8 N) N (h8_0 w0 w1 w2 w3)) = m_ticketlinelaw16_PageHolds_l0 N N := by
    funext w0 w1 w2 w3; exact t8_0 N N w0 w1 w2 w3
  rw [e0]
theorem ev8 : ∀ x : g8.ps.den, evalFn (c8 FUEL) an8 Try.f8 (codeOf Try.f8) g8 x (fun p => p.1.1) = g8.m x := fun x => ew8 FUEL x
theorem meets8 : Meets Try.prog 8 g8 :=
  meets_of (C := c8 FUEL) (ann := an8) (mkC_ok (gs := [(10, g10), (12, g12), (13, g13), (14, g14), (21, g21), (24, g24), (29, g29), (30, g30), (31, g31), (32, g32), (33, g33), (34, g34)]) (is := []) (mt := mtL) tysOK elemOK ⟨meets10, meets12, meets13, meets14, meets21, meets24, meets29, meets30, meets31, meets32, meets33, meets34, trivial⟩ trivial mtOK FUEL) mixed Try.func8 (by kernel_rfl) (by kernel_rfl) (by kernel_rfl) (of_decide_eq_true (by kernel_rfl)) (fun p => p.1.1) (fun _ _ => ⟨rfl, rfl⟩) ev8
end Go.Proofs.Ytfohnbfhajkelaa
