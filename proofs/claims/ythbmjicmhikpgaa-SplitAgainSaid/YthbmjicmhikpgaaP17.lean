/- A part of the proof of a statement of this seat: the functions keep their promises. No condition. -/
import Derived.Test.YthbmjicmhikpgaaM17
import Derived.Test.YthbmjicmhikpgaaChecked
set_option linter.unusedVariables false
set_option maxRecDepth 100000
namespace Go.Proofs.Ythbmjicmhikpgaa
open Go Go.Ev Go.Ev.M Go.Proofs
def tyL : List (Nat × TI) := [
  (3, ⟨(.int .i64), 1, 8, (.int .i64 (0 : Int)), some (.int .i64), false⟩),
  (4, ⟨.bool, 1, 1, (.bool false), some .bool, false⟩),
  (5, ⟨(.int .u8), 1, 1, (.int .u8 (0 : Int)), some (.int .u8), false⟩),
  (9, ⟨.str, 1, 16, (.str (⟨#[]⟩ : ByteArray)), some .str, false⟩),
  (22, ⟨(.sl 48), 1, 24, .nils, some (.sl (.pair .str (.pair .str .nl))), false⟩),
  (23, ⟨(.sl 5), 1, 24, .nils, some (.sl (.int .u8)), false⟩),
  (24, ⟨(.sl 61), 1, 24, .nils, some (.sl (.pair (.int .u8) (.pair (.int .u64) .nl))), false⟩),
  (26, ⟨(.st [(3, 0), (3, 1), (9, 2), (9, 3), (22, 4), (23, 5), (24, 6)]), 7, 120, (.cons (.int .i64 (0 : Int)) (.cons (.int .i64 (0 : Int)) (.cons (.str (⟨#[]⟩ : ByteArray)) (.cons (.str (⟨#[]⟩ : ByteArray)) (.cons .nils (.cons .nils (.cons .nils .nl))))))), some (.pair (.int .i64) (.pair (.int .i64) (.pair .str (.pair .str (.pair (.sl (.pair .str (.pair .str .nl))) (.pair (.sl (.int .u8)) (.pair (.sl (.pair (.int .u8) (.pair (.int .u64) .nl))) .nl))))))), false⟩),
  (27, ⟨(.int .u64), 1, 8, (.int .u64 (0 : Int)), some (.int .u64), false⟩),
  (29, ⟨(.arr 128 27), 128, 1024, (.arr (.int .u64) 128 (List.replicate 128 (0 : Int))), some (.arr 128 (.int .u64)), true⟩),
  (33, ⟨(.int .i64), 1, 8, (.int .i64 (0 : Int)), some (.int .i64), false⟩),
  (48, ⟨(.st [(9, 0), (9, 1)]), 2, 32, (.cons (.str (⟨#[]⟩ : ByteArray)) (.cons (.str (⟨#[]⟩ : ByteArray)) .nl)), some (.pair .str (.pair .str .nl)), true⟩),
  (50, ⟨(.int .u16), 1, 2, (.int .u16 (0 : Int)), some (.int .u16), false⟩),
  (51, ⟨(.sl 29), 1, 24, .nils, some (.sl (.arr 128 (.int .u64))), false⟩),
  (61, ⟨(.st [(5, 0), (27, 1)]), 2, 16, (.cons (.int .u8 (0 : Int)) (.cons (.int .u64 (0 : Int)) .nl)), some (.pair (.int .u8) (.pair (.int .u64) .nl)), false⟩),
  (70, ⟨(.st [(3, 0), (3, 1), (3, 2)]), 3, 24, (.cons (.int .i64 (0 : Int)) (.cons (.int .i64 (0 : Int)) (.cons (.int .i64 (0 : Int)) .nl))), some (.pair (.int .i64) (.pair (.int .i64) (.pair (.int .i64) .nl))), false⟩),
  (76, ⟨(.sl 27), 1, 24, .nils, some (.sl (.int .u64)), false⟩),
  (87, ⟨(.ptr 29), 1, 8, .nilp, none, false⟩),
  (93, ⟨(.st [(3, 0), (3, 1), (3, 2), (3, 3), (3, 4)]), 5, 40, (.cons (.int .i64 (0 : Int)) (.cons (.int .i64 (0 : Int)) (.cons (.int .i64 (0 : Int)) (.cons (.int .i64 (0 : Int)) (.cons (.int .i64 (0 : Int)) .nl))))), some (.pair (.int .i64) (.pair (.int .i64) (.pair (.int .i64) (.pair (.int .i64) (.pair (.int .i64) .nl))))), false⟩),
  (97, ⟨(.sl 3), 1, 24, .nils, some (.sl (.int .i64)), false⟩),
  (105, ⟨(.arr 128 4), 128, 128, (.arr .bool 128 (List.replicate 128 false)), some (.arr 128 .bool), false⟩)]
theorem tysOK : tisB Try.prog tyL = true := by kernel_rfl
theorem elemOK : elemB (mkD tyL) tyL = true := by kernel_rfl
theorem mixed : Try.prog.follows .mixedOrders = true := by kernel_rfl
def mtL : List (Nat × String × Nat) := []
theorem mtOK : MOk Try.prog mtL := trivial
def g75 : Sig := gCmp
theorem meets75 : Meets Try.prog 75 g75 := meets_cmp (fn := Try.f75) Try.func75 (by kernel_rfl) (by kernel_rfl) (by kernel_rfl) (by kernel_rfl)
def c47 (N : Nat) : Cx := mkC tyL [] [] mtL N
def g47 : Sig := ⟨(.cons (.ptr (.pure (.arr 128 (.int .u64)))) (.cons (.pure (.int .i64)) (.cons (.pure (.sl (.int .u64))) .nl))), .nl, (List Int), fun x => m_ticketlineref14_put x.1 x.2.1 x.2.2.1, fun _ y => (), fun _ y => (y, ((), ((), ())))⟩
def an47 : Nat → Ann := mkA [(1, ⟨[0, 1, 2, 6], [], [], false⟩)]
noncomputable def k47 (N : Nat) : Ex → St → Option (List Int) := finK (c47 N) Try.f47 g47 (.cons (.ref 100000 []) (.cons .top (.cons .top .nl))) (fun p => p.2.1)
def a47 : Nat → Ann := annP [100000] an47
def h47_0 (u0_0 : Int) (u0_1 : (List Int)) (u0_2 : Int) (u0_3 : (List Int)) : St := ⟨23, [(0, (.ref 100000 [])), (1, (.int .i64 u0_0)), (2, (.lst (.int .u64) u0_1)), (6, (.int .i64 u0_2))], [(100000, (.arr (.int .u64) 128 u0_3))]⟩
theorem t47_0 : ∀ (N : Nat) (n : Nat) (u0_0 : Int) (u0_1 : (List Int)) (u0_2 : Int) (u0_3 : (List Int)), loopAt (c47 N) a47 [1, 0] [] (codeOf Try.f47) (k47 N) n (h47_0 u0_0 u0_1 u0_2 u0_3) = m_ticketlineref14_put_l0 N n u0_0 u0_1 u0_2 u0_3 := by
  intro N n
  induction n with
  | zero => intro u0_0 u0_1 u0_2 u0_3; kernel_rfl
  | succ n ih =>
    intro u0_0 u0_1 u0_2 u0_3
    have e : loopAt (c47 N) a47 [1, 0] [] (codeOf Try.f47) (k47 N) (n + 1) (h47_0 u0_0 u0_1 u0_2 u0_3) = m_ticketlineref14_put_l0_b (fun w0 w1 w2 w3 => loopAt (c47 N) a47 [1, 0] [] (codeOf Try.f47) (k47 N) n (h47_0 w0 w1 w2 w3)) u0_0 u0_1 u0_2 u0_3 := by kernel_rfl
    refine e.trans ?_
    have es : (fun w0 w1 w2 w3 => loopAt (c47 N) a47 [1, 0] [] (codeOf Try.f47) (k47 N) n (h47_0 w0 w1 w2 w3)) = m_ticketlineref14_put_l0 N n := by
      funext w0 w1 w2 w3; exact ih w0 w1 w2 w3
    rw [es]
    rw [m_ticketlineref14_put_l0]
theorem ew47 : ∀ (N : Nat) (x : g47.ps.den), evalFn (c47 N) an47 Try.f47 (codeOf Try.f47) g47 x (fun p => p.2.1) = m_ticketlineref14_put_a (m_ticketlineref14_put_l0 N N) x.1 x.2.1 x.2.2.1 := by
  intro N
  intro x
  obtain ⟨x0, x1, x2, xu⟩ := x
  have e : evalFn (c47 N) an47 Try.f47 (codeOf Try.f47) g47 (x0, x1, x2, xu) (fun p => p.2.1) = m_ticketlineref14_put_a (fun w0 w1 w2 w3 => loopAt (c47 N) a47 [1, 0] [] (codeOf Try.f47) (k47 N) N (h47_0 w0 w1 w2 w3)) x0 x1 x2 := by kernel_rfl
  refine e.trans ?_
  have e0 : (fun w0 w1 w2 w3 => loopAt (c47 N) a47 [1, 0] [] (codeOf Try.f47) (k47 N) N (h47_0 w0 w1 w2 w3)) = m_ticketlineref14_put_l0 N N := by
    funext w0 w1 w2 w3; exact t47_0 N N w0 w1 w2 w3
  rw [e0]
theorem ev47 : ∀ x : g47.ps.den, evalFn (c47 FUEL) an47 Try.f47 (codeOf Try.f47) g47 x (fun p => p.2.1) = g47.m x := fun x => ew47 FUEL x
theorem meets47 : Meets Try.prog 47 g47 :=
  meets_of (C := c47 FUEL) (ann := an47) (mkC_ok (gs := []) (is := []) (mt := mtL) tysOK elemOK trivial trivial mtOK FUEL) mixed Try.func47 (by kernel_rfl) (by kernel_rfl) (by kernel_rfl) (of_decide_eq_true (by kernel_rfl)) (fun p => p.2.1) (fun _ _ => ⟨rfl, rfl⟩) ev47
def c34 (N : Nat) : Cx := mkC tyL [] [] mtL N
def g34 : Sig := ⟨(.cons (.pure (.int .i64)) .nl), (.cons (.pure (.int .i64)) .nl), Int, fun x => m_ticketlineref14_Words x.1, fun _ y => (y, ()), fun _ y => ((), ())⟩
def an34 : Nat → Ann := mkA []
theorem ev34 : ∀ x : g34.ps.den, evalFn (c34 FUEL) an34 Try.f34 (codeOf Try.f34) g34 x (fun p => p.1.1) = g34.m x := by
  intro x
  obtain ⟨x0, xu⟩ := x
  show _ = _
  kernel_rfl
theorem meets34 : Meets Try.prog 34 g34 :=
  meets_of (C := c34 FUEL) (ann := an34) (mkC_ok (gs := []) (is := []) (mt := mtL) tysOK elemOK trivial trivial mtOK FUEL) mixed Try.func34 (by kernel_rfl) (by kernel_rfl) (by kernel_rfl) (of_decide_eq_true (by kernel_rfl)) (fun p => p.1.1) (fun _ _ => ⟨rfl, rfl⟩) ev34
def c48 (N : Nat) : Cx := mkC tyL [(34, g34)] [] mtL N
def g48 : Sig := ⟨(.cons (.pure .str) .nl), (.cons (.own (.int .u64)) .nl), (List Int), fun x => m_ticketlineref14_Pack x.1, fun _ y => (y, ()), fun _ y => ((), ())⟩
def an48 : Nat → Ann := mkA [(3, ⟨[0, 3, 4], [], [9], false⟩)]
noncomputable def k48 (N : Nat) : Ex → St → Option (List Int) := finK (c48 N) Try.f48 g48 (.cons .top .nl) (fun p => p.1.1)
def a48 : Nat → Ann := annP [] an48
def h48_0 (u0_0 : ByteArray) (u0_1 : Int) (u0_2 : (List Int)) : St := ⟨38, [(0, (.str u0_0)), (3, (.full 9)), (4, (.int .i64 u0_1))], [(9, (.bk (.int .u64) u0_2))]⟩
theorem t48_0 : ∀ (N : Nat) (n : Nat) (u0_0 : ByteArray) (u0_1 : Int) (u0_2 : (List Int)), loopAt (c48 N) a48 [1, 1, 0, 1, 0] [] (codeOf Try.f48) (k48 N) n (h48_0 u0_0 u0_1 u0_2) = m_ticketlineref14_Pack_l0 N n u0_0 u0_1 u0_2 := by
  intro N n
  induction n with
  | zero => intro u0_0 u0_1 u0_2; kernel_rfl
  | succ n ih =>
    intro u0_0 u0_1 u0_2
    have e : loopAt (c48 N) a48 [1, 1, 0, 1, 0] [] (codeOf Try.f48) (k48 N) (n + 1) (h48_0 u0_0 u0_1 u0_2) = m_ticketlineref14_Pack_l0_b (fun w0 w1 w2 => loopAt (c48 N) a48 [1, 1, 0, 1, 0] [] (codeOf Try.f48) (k48 N) n (h48_0 w0 w1 w2)) u0_0 u0_1 u0_2 := by kernel_rfl
    refine e.trans ?_
    have es : (fun w0 w1 w2 => loopAt (c48 N) a48 [1, 1, 0, 1, 0] [] (codeOf Try.f48) (k48 N) n (h48_0 w0 w1 w2)) = m_ticketlineref14_Pack_l0 N n := by
      funext w0 w1 w2; exact ih w0 w1 w2
    rw [es]
    rw [m_ticketlineref14_Pack_l0]
theorem ew48 : ∀ (N : Nat) (x : g48.ps.den), evalFn (c48 N) an48 Try.f48 (codeOf Try.f48) g48 x (fun p => p.1.1) = m_ticketlineref14_Pack_a (m_ticketlineref14_Pack_l0 N N) x.1 := by
  intro N
  intro x
  obtain ⟨x0, xu⟩ := x
  have e : evalFn (c48 N) an48 Try.f48 (codeOf Try.f48) g48 (x0, xu) (fun p => p.1.1) = m_ticketlineref14_Pack_a (fun w0 w1 w2 => loopAt (c48 N) a48 [1, 1, 0, 1, 0] [] (codeOf Try.f48) (k48 N) N (h48_0 w0 w1 w2)) x0 := by kernel_rfl
  refine e.trans ?_
  have e0 : (fun w0 w1 w2 => loopAt (c48 N) a48 [1, 1, 0, 1, 0] [] (codeOf Try.f48) (k48 N) N (h48_0 w0 w1 w2)) = m_ticketlineref14_Pack_l0 N N := by
    funext w0 w1 w2; exact t48_0 N N w0 w1 w2
  rw [e0]
theorem ev48 : ∀ x : g48.ps.den, evalFn (c48 FUEL) an48 Try.f48 (codeOf Try.f48) g48 x (fun p => p.1.1) = g48.m x := fun x => ew48 FUEL x
theorem meets48 : Meets Try.prog 48 g48 :=
  meets_of (C := c48 FUEL) (ann := an48) (mkC_ok (gs := [(34, g34)]) (is := []) (mt := mtL) tysOK elemOK ⟨meets34, trivial⟩ trivial mtOK FUEL) mixed Try.func48 (by kernel_rfl) (by kernel_rfl) (by kernel_rfl) (of_decide_eq_true (by kernel_rfl)) (fun p => p.1.1) (fun _ _ => ⟨rfl, rfl⟩) ev48
def c25 (N : Nat) : Cx := mkC tyL [(47, g47), (48, g48)] [] mtL N
def g25 : Sig := ⟨(.cons (.pure (.int .i64)) (.cons (.pure .str) (.cons (.pure .str) .nl))), (.cons (.pure (.arr 128 (.int .u64))) .nl), (List Int), fun x => m_ticketlineref14_Empty x.1 x.2.1 x.2.2.1, fun _ y => (y, ()), fun _ y => ((), ((), ((), ())))⟩
def an25 : Nat → Ann := mkA []
theorem ev25 : ∀ x : g25.ps.den, evalFn (c25 FUEL) an25 Try.f25 (codeOf Try.f25) g25 x (fun p => p.1.1) = g25.m x := by
  intro x
  obtain ⟨x0, x1, x2, xu⟩ := x
  show _ = _
  kernel_rfl
theorem meets25 : Meets Try.prog 25 g25 :=
  meets_of (C := c25 FUEL) (ann := an25) (mkC_ok (gs := [(47, g47), (48, g48)]) (is := []) (mt := mtL) tysOK elemOK ⟨meets47, meets48, trivial⟩ trivial mtOK FUEL) mixed Try.func25 (by kernel_rfl) (by kernel_rfl) (by kernel_rfl) (of_decide_eq_true (by kernel_rfl)) (fun p => p.1.1) (fun _ _ => ⟨rfl, rfl⟩) ev25
def c26 (N : Nat) : Cx := mkC tyL [(34, g34)] [] mtL N
def g26 : Sig := ⟨(.cons (.pure (.pair .str (.pair .str .nl))) .nl), (.cons (.pure (.int .i64)) .nl), Int, fun x => m_ticketlineref14_Cost x.1, fun _ y => (y, ()), fun _ y => ((), ())⟩
def an26 : Nat → Ann := mkA []
theorem ev26 : ∀ x : g26.ps.den, evalFn (c26 FUEL) an26 Try.f26 (codeOf Try.f26) g26 x (fun p => p.1.1) = g26.m x := by
  intro x
  obtain ⟨x0, xu⟩ := x
  show _ = _
  kernel_rfl
theorem meets26 : Meets Try.prog 26 g26 :=
  meets_of (C := c26 FUEL) (ann := an26) (mkC_ok (gs := [(34, g34)]) (is := []) (mt := mtL) tysOK elemOK ⟨meets34, trivial⟩ trivial mtOK FUEL) mixed Try.func26 (by kernel_rfl) (by kernel_rfl) (by kernel_rfl) (of_decide_eq_true (by kernel_rfl)) (fun p => p.1.1) (fun _ _ => ⟨rfl, rfl⟩) ev26
def c27 (N : Nat) : Cx := mkC tyL [(47, g47), (48, g48)] [] mtL N
def g27 : Sig := ⟨(.cons (.pure (.arr 128 (.int .u64))) (.cons (.pure (.pair .str (.pair .str .nl))) .nl)), (.cons (.pure (.arr 128 (.int .u64))) .nl), (List Int), fun x => m_ticketlineref14_Put x.1 x.2.1, fun _ y => (y, ()), fun _ y => ((), ((), ()))⟩
def an27 : Nat → Ann := mkA []
theorem ev27 : ∀ x : g27.ps.den, evalFn (c27 FUEL) an27 Try.f27 (codeOf Try.f27) g27 x (fun p => p.1.1) = g27.m x := by
  intro x
  obtain ⟨x0, x1, xu⟩ := x
  show _ = _
  kernel_rfl
theorem meets27 : Meets Try.prog 27 g27 :=
  meets_of (C := c27 FUEL) (ann := an27) (mkC_ok (gs := [(47, g47), (48, g48)]) (is := []) (mt := mtL) tysOK elemOK ⟨meets47, meets48, trivial⟩ trivial mtOK FUEL) mixed Try.func27 (by kernel_rfl) (by kernel_rfl) (by kernel_rfl) (of_decide_eq_true (by kernel_rfl)) (fun p => p.1.1) (fun _ _ => ⟨rfl, rfl⟩) ev27
def c8 (N : Nat) : Cx := mkC tyL [(25, g25), (26, g26), (27, g27)] [] mtL N
def g8 : Sig := ⟨(.cons (.pure (.pair (.int .i64) (.pair (.int .i64) (.pair .str (.pair .str (.pair (.sl (.pair .str (.pair .str .nl))) (.pair (.sl (.int .u8)) (.pair (.sl (.pair (.int .u8) (.pair (.int .u64) .nl))) .nl)))))))) .nl), (.cons (.pure (.arr 128 (.int .u64))) (.cons (.pure .bool) .nl)), ((List Int) × Bool), fun x => m_ticketlineref14_Plan_Page x.1, fun _ y => (y.1, (y.2, ())), fun _ y => ((), ())⟩
def an8 : Nat → Ann := mkA [(6, ⟨[1, 2, 4, 5], [], [1, 2, 4], false⟩), (10, ⟨[1, 2, 4, 6], [], [1, 2, 4], false⟩), (18, ⟨[1, 2, 4, 6, 7, 8], [], [1, 2, 4], false⟩), (24, ⟨[1, 2, 4, 9], [], [1, 2, 4], false⟩)]
noncomputable def k8 (N : Nat) : Ex → St → Option ((List Int) × Bool) := finK (c8 N) Try.f8 g8 (.cons .top .nl) (fun p => (p.1.1, p.1.2.1))
def a8 : Nat → Ann := annP [] an8
def h8_2 (u2_0 : Int) (u2_1 : Int) (u2_2 : Int) (u2_3 : Int) (u2_4 : Int) (u2_5 : ByteArray) (u2_6 : ByteArray) (u2_7 : (List (ByteArray × (ByteArray × Unit)))) (u2_8 : (List Int)) (u2_9 : (List (Int × (Int × Unit)))) (u2_10 : (List Int)) (u2_11 : (List Int)) : St := ⟨174, [(1, (.ref 1 [])), (2, (.ref 2 [])), (4, (.ref 4 [])), (6, (.int .i64 u2_0)), (7, (.int .i64 u2_1)), (8, (.int .i64 u2_2))], [(1, (.cons (.int .i64 u2_3) (.cons (.int .i64 u2_4) (.cons (.str u2_5) (.cons (.str u2_6) (.cons (.lst (.pair .str (.pair .str .nl)) u2_7) (.cons (.lst (.int .u8) u2_8) (.cons (.lst (.pair (.int .u8) (.pair (.int .u64) .nl)) u2_9) .nl)))))))), (2, (.arr (.int .u64) 128 u2_10)), (4, (.arr (.int .u64) 128 u2_11))]⟩
def h8_3 (u3_0 : Int) (u3_1 : Int) (u3_2 : Int) (u3_3 : ByteArray) (u3_4 : ByteArray) (u3_5 : (List (ByteArray × (ByteArray × Unit)))) (u3_6 : (List Int)) (u3_7 : (List (Int × (Int × Unit)))) (u3_8 : (List Int)) (u3_9 : (List Int)) : St := ⟨174, [(1, (.ref 1 [])), (2, (.ref 2 [])), (4, (.ref 4 [])), (9, (.int .i64 u3_0))], [(1, (.cons (.int .i64 u3_1) (.cons (.int .i64 u3_2) (.cons (.str u3_3) (.cons (.str u3_4) (.cons (.lst (.pair .str (.pair .str .nl)) u3_5) (.cons (.lst (.int .u8) u3_6) (.cons (.lst (.pair (.int .u8) (.pair (.int .u64) .nl)) u3_7) .nl)))))))), (2, (.arr (.int .u64) 128 u3_8)), (4, (.arr (.int .u64) 128 u3_9))]⟩
def h8_1 (u1_0 : Int) (u1_1 : Int) (u1_2 : Int) (u1_3 : ByteArray) (u1_4 : ByteArray) (u1_5 : (List (ByteArray × (ByteArray × Unit)))) (u1_6 : (List Int)) (u1_7 : (List (Int × (Int × Unit)))) (u1_8 : (List Int)) (u1_9 : (List Int)) : St := ⟨174, [(1, (.ref 1 [])), (2, (.ref 2 [])), (4, (.ref 4 [])), (6, (.int .i64 u1_0))], [(1, (.cons (.int .i64 u1_1) (.cons (.int .i64 u1_2) (.cons (.str u1_3) (.cons (.str u1_4) (.cons (.lst (.pair .str (.pair .str .nl)) u1_5) (.cons (.lst (.int .u8) u1_6) (.cons (.lst (.pair (.int .u8) (.pair (.int .u64) .nl)) u1_7) .nl)))))))), (2, (.arr (.int .u64) 128 u1_8)), (4, (.arr (.int .u64) 128 u1_9))]⟩
def h8_0 (u0_0 : Int) (u0_1 : Int) (u0_2 : Int) (u0_3 : ByteArray) (u0_4 : ByteArray) (u0_5 : (List (ByteArray × (ByteArray × Unit)))) (u0_6 : (List Int)) (u0_7 : (List (Int × (Int × Unit)))) (u0_8 : (List Int)) (u0_9 : (List Int)) : St := ⟨174, [(1, (.ref 1 [])), (2, (.ref 2 [])), (4, (.ref 4 [])), (5, (.int .i64 u0_0))], [(1, (.cons (.int .i64 u0_1) (.cons (.int .i64 u0_2) (.cons (.str u0_3) (.cons (.str u0_4) (.cons (.lst (.pair .str (.pair .str .nl)) u0_5) (.cons (.lst (.int .u8) u0_6) (.cons (.lst (.pair (.int .u8) (.pair (.int .u64) .nl)) u0_7) .nl)))))))), (2, (.arr (.int .u64) 128 u0_8)), (4, (.arr (.int .u64) 128 u0_9))]⟩
theorem t8_2 : ∀ (N : Nat) (m0 : Nat) (n : Nat) (u2_0 : Int) (u2_1 : Int) (u2_2 : Int) (u2_3 : Int) (u2_4 : Int) (u2_5 : ByteArray) (u2_6 : ByteArray) (u2_7 : (List (ByteArray × (ByteArray × Unit)))) (u2_8 : (List Int)) (u2_9 : (List (Int × (Int × Unit)))) (u2_10 : (List Int)) (u2_11 : (List Int)), loopAt (c8 N) a8 [1, 1, 1, 1, 1, 0, 1, 0, 0, 1, 0, 0, 1, 1, 1, 0, 1, 0] [m0] (codeOf Try.f8) (k8 N) n (h8_2 u2_0 u2_1 u2_2 u2_3 u2_4 u2_5 u2_6 u2_7 u2_8 u2_9 u2_10 u2_11) = m_ticketlineref14_Plan_Page_l2 N (fun w0 w1 w2 w3 w4 w5 w6 w7 w8 w9 => loopAt (c8 N) a8 [1, 1, 1, 1, 1, 0, 1, 0] [] (codeOf Try.f8) (k8 N) m0 (h8_1 w0 w1 w2 w3 w4 w5 w6 w7 w8 w9)) n u2_0 u2_1 u2_2 u2_3 u2_4 u2_5 u2_6 u2_7 u2_8 u2_9 u2_10 u2_11 := by
  intro N m0 n
  induction n with
  | zero => intro u2_0 u2_1 u2_2 u2_3 u2_4 u2_5 u2_6 u2_7 u2_8 u2_9 u2_10 u2_11; kernel_rfl
  | succ n ih =>
    intro u2_0 u2_1 u2_2 u2_3 u2_4 u2_5 u2_6 u2_7 u2_8 u2_9 u2_10 u2_11
    have e : loopAt (c8 N) a8 [1, 1, 1, 1, 1, 0, 1, 0, 0, 1, 0, 0, 1, 1, 1, 0, 1, 0] [m0] (codeOf Try.f8) (k8 N) (n + 1) (h8_2 u2_0 u2_1 u2_2 u2_3 u2_4 u2_5 u2_6 u2_7 u2_8 u2_9 u2_10 u2_11) = m_ticketlineref14_Plan_Page_l2_b (fun w0 w1 w2 w3 w4 w5 w6 w7 w8 w9 => loopAt (c8 N) a8 [1, 1, 1, 1, 1, 0, 1, 0] [] (codeOf Try.f8) (k8 N) m0 (h8_1 w0 w1 w2 w3 w4 w5 w6 w7 w8 w9)) (fun w0 w1 w2 w3 w4 w5 w6 w7 w8 w9 w10 w11 => loopAt (c8 N) a8 [1, 1, 1, 1, 1, 0, 1, 0, 0, 1, 0, 0, 1, 1, 1, 0, 1, 0] [m0] (codeOf Try.f8) (k8 N) n (h8_2 w0 w1 w2 w3 w4 w5 w6 w7 w8 w9 w10 w11)) u2_0 u2_1 u2_2 u2_3 u2_4 u2_5 u2_6 u2_7 u2_8 u2_9 u2_10 u2_11 := by kernel_rfl
    refine e.trans ?_
    have es : (fun w0 w1 w2 w3 w4 w5 w6 w7 w8 w9 w10 w11 => loopAt (c8 N) a8 [1, 1, 1, 1, 1, 0, 1, 0, 0, 1, 0, 0, 1, 1, 1, 0, 1, 0] [m0] (codeOf Try.f8) (k8 N) n (h8_2 w0 w1 w2 w3 w4 w5 w6 w7 w8 w9 w10 w11)) = m_ticketlineref14_Plan_Page_l2 N (fun w0 w1 w2 w3 w4 w5 w6 w7 w8 w9 => loopAt (c8 N) a8 [1, 1, 1, 1, 1, 0, 1, 0] [] (codeOf Try.f8) (k8 N) m0 (h8_1 w0 w1 w2 w3 w4 w5 w6 w7 w8 w9)) n := by
      funext w0 w1 w2 w3 w4 w5 w6 w7 w8 w9 w10 w11; exact ih w0 w1 w2 w3 w4 w5 w6 w7 w8 w9 w10 w11
    rw [es]
    rw [m_ticketlineref14_Plan_Page_l2]
theorem t8_3 : ∀ (N : Nat) (n : Nat) (u3_0 : Int) (u3_1 : Int) (u3_2 : Int) (u3_3 : ByteArray) (u3_4 : ByteArray) (u3_5 : (List (ByteArray × (ByteArray × Unit)))) (u3_6 : (List Int)) (u3_7 : (List (Int × (Int × Unit)))) (u3_8 : (List Int)) (u3_9 : (List Int)), loopAt (c8 N) a8 [1, 1, 1, 1, 1, 1, 0, 1, 0] [] (codeOf Try.f8) (k8 N) n (h8_3 u3_0 u3_1 u3_2 u3_3 u3_4 u3_5 u3_6 u3_7 u3_8 u3_9) = m_ticketlineref14_Plan_Page_l3 N n u3_0 u3_1 u3_2 u3_3 u3_4 u3_5 u3_6 u3_7 u3_8 u3_9 := by
  intro N n
  induction n with
  | zero => intro u3_0 u3_1 u3_2 u3_3 u3_4 u3_5 u3_6 u3_7 u3_8 u3_9; kernel_rfl
  | succ n ih =>
    intro u3_0 u3_1 u3_2 u3_3 u3_4 u3_5 u3_6 u3_7 u3_8 u3_9
    have e : loopAt (c8 N) a8 [1, 1, 1, 1, 1, 1, 0, 1, 0] [] (codeOf Try.f8) (k8 N) (n + 1) (h8_3 u3_0 u3_1 u3_2 u3_3 u3_4 u3_5 u3_6 u3_7 u3_8 u3_9) = m_ticketlineref14_Plan_Page_l3_b (fun w0 w1 w2 w3 w4 w5 w6 w7 w8 w9 => loopAt (c8 N) a8 [1, 1, 1, 1, 1, 1, 0, 1, 0] [] (codeOf Try.f8) (k8 N) n (h8_3 w0 w1 w2 w3 w4 w5 w6 w7 w8 w9)) u3_0 u3_1 u3_2 u3_3 u3_4 u3_5 u3_6 u3_7 u3_8 u3_9 := by kernel_rfl
    refine e.trans ?_
    have es : (fun w0 w1 w2 w3 w4 w5 w6 w7 w8 w9 => loopAt (c8 N) a8 [1, 1, 1, 1, 1, 1, 0, 1, 0] [] (codeOf Try.f8) (k8 N) n (h8_3 w0 w1 w2 w3 w4 w5 w6 w7 w8 w9)) = m_ticketlineref14_Plan_Page_l3 N n := by
      funext w0 w1 w2 w3 w4 w5 w6 w7 w8 w9; exact ih w0 w1 w2 w3 w4 w5 w6 w7 w8 w9
    rw [es]
    rw [m_ticketlineref14_Plan_Page_l3]
theorem t8_1 : ∀ (N : Nat) (n : Nat) (u1_0 : Int) (u1_1 : Int) (u1_2 : Int) (u1_3 : ByteArray) (u1_4 : ByteArray) (u1_5 : (List (ByteArray × (ByteArray × Unit)))) (u1_6 : (List Int)) (u1_7 : (List (Int × (Int × Unit)))) (u1_8 : (List Int)) (u1_9 : (List Int)), loopAt (c8 N) a8 [1, 1, 1, 1, 1, 0, 1, 0] [] (codeOf Try.f8) (k8 N) n (h8_1 u1_0 u1_1 u1_2 u1_3 u1_4 u1_5 u1_6 u1_7 u1_8 u1_9) = m_ticketlineref14_Plan_Page_l1 N n u1_0 u1_1 u1_2 u1_3 u1_4 u1_5 u1_6 u1_7 u1_8 u1_9 := by
  intro N n
  induction n with
  | zero => intro u1_0 u1_1 u1_2 u1_3 u1_4 u1_5 u1_6 u1_7 u1_8 u1_9; kernel_rfl
  | succ n ih =>
    intro u1_0 u1_1 u1_2 u1_3 u1_4 u1_5 u1_6 u1_7 u1_8 u1_9
    have e : loopAt (c8 N) a8 [1, 1, 1, 1, 1, 0, 1, 0] [] (codeOf Try.f8) (k8 N) (n + 1) (h8_1 u1_0 u1_1 u1_2 u1_3 u1_4 u1_5 u1_6 u1_7 u1_8 u1_9) = m_ticketlineref14_Plan_Page_l1_b (fun w0 w1 w2 w3 w4 w5 w6 w7 w8 w9 => loopAt (c8 N) a8 [1, 1, 1, 1, 1, 0, 1, 0] [] (codeOf Try.f8) (k8 N) n (h8_1 w0 w1 w2 w3 w4 w5 w6 w7 w8 w9)) (fun w0 w1 w2 w3 w4 w5 w6 w7 w8 w9 w10 w11 => loopAt (c8 N) a8 [1, 1, 1, 1, 1, 0, 1, 0, 0, 1, 0, 0, 1, 1, 1, 0, 1, 0] [n] (codeOf Try.f8) (k8 N) N (h8_2 w0 w1 w2 w3 w4 w5 w6 w7 w8 w9 w10 w11)) (fun w0 w1 w2 w3 w4 w5 w6 w7 w8 w9 => loopAt (c8 N) a8 [1, 1, 1, 1, 1, 1, 0, 1, 0] [] (codeOf Try.f8) (k8 N) N (h8_3 w0 w1 w2 w3 w4 w5 w6 w7 w8 w9)) u1_0 u1_1 u1_2 u1_3 u1_4 u1_5 u1_6 u1_7 u1_8 u1_9 := by kernel_rfl
    refine e.trans ?_
    have e2 : (fun w0 w1 w2 w3 w4 w5 w6 w7 w8 w9 w10 w11 => loopAt (c8 N) a8 [1, 1, 1, 1, 1, 0, 1, 0, 0, 1, 0, 0, 1, 1, 1, 0, 1, 0] [n] (codeOf Try.f8) (k8 N) N (h8_2 w0 w1 w2 w3 w4 w5 w6 w7 w8 w9 w10 w11)) = m_ticketlineref14_Plan_Page_l2 N (fun w0 w1 w2 w3 w4 w5 w6 w7 w8 w9 => loopAt (c8 N) a8 [1, 1, 1, 1, 1, 0, 1, 0] [] (codeOf Try.f8) (k8 N) n (h8_1 w0 w1 w2 w3 w4 w5 w6 w7 w8 w9)) N := by
      funext w0 w1 w2 w3 w4 w5 w6 w7 w8 w9 w10 w11; exact t8_2 N n N w0 w1 w2 w3 w4 w5 w6 w7 w8 w9 w10 w11
    rw [e2]
    have e3 : (fun w0 w1 w2 w3 w4 w5 w6 w7 w8 w9 => loopAt (c8 N) a8 [1, 1, 1, 1, 1, 1, 0, 1, 0] [] (codeOf Try.f8) (k8 N) N (h8_3 w0 w1 w2 w3 w4 w5 w6 w7 w8 w9)) = m_ticketlineref14_Plan_Page_l3 N N := by
      funext w0 w1 w2 w3 w4 w5 w6 w7 w8 w9; exact t8_3 N N w0 w1 w2 w3 w4 w5 w6 w7 w8 w9
    rw [e3]
    have es : (fun w0 w1 w2 w3 w4 w5 w6 w7 w8 w9 => loopAt (c8 N) a8 [1, 1, 1, 1, 1, 0, 1, 0] [] (codeOf Try.f8) (k8 N) n (h8_1 w0 w1 w2 w3 w4 w5 w6 w7 w8 w9)) = m_ticketlineref14_Plan_Page_l1 N n := by
      funext w0 w1 w2 w3 w4 w5 w6 w7 w8 w9; exact ih w0 w1 w2 w3 w4 w5 w6 w7 w8 w9
    rw [es]
    rw [m_ticketlineref14_Plan_Page_l1]
theorem t8_0 : ∀ (N : Nat) (n : Nat) (u0_0 : Int) (u0_1 : Int) (u0_2 : Int) (u0_3 : ByteArray) (u0_4 : ByteArray) (u0_5 : (List (ByteArray × (ByteArray × Unit)))) (u0_6 : (List Int)) (u0_7 : (List (Int × (Int × Unit)))) (u0_8 : (List Int)) (u0_9 : (List Int)), loopAt (c8 N) a8 [1, 1, 1, 1, 0, 1, 0] [] (codeOf Try.f8) (k8 N) n (h8_0 u0_0 u0_1 u0_2 u0_3 u0_4 u0_5 u0_6 u0_7 u0_8 u0_9) = m_ticketlineref14_Plan_Page_l0 N n u0_0 u0_1 u0_2 u0_3 u0_4 u0_5 u0_6 u0_7 u0_8 u0_9 := by
  intro N n
  induction n with
  | zero => intro u0_0 u0_1 u0_2 u0_3 u0_4 u0_5 u0_6 u0_7 u0_8 u0_9; kernel_rfl
  | succ n ih =>
    intro u0_0 u0_1 u0_2 u0_3 u0_4 u0_5 u0_6 u0_7 u0_8 u0_9
    have e : loopAt (c8 N) a8 [1, 1, 1, 1, 0, 1, 0] [] (codeOf Try.f8) (k8 N) (n + 1) (h8_0 u0_0 u0_1 u0_2 u0_3 u0_4 u0_5 u0_6 u0_7 u0_8 u0_9) = m_ticketlineref14_Plan_Page_l0_b (fun w0 w1 w2 w3 w4 w5 w6 w7 w8 w9 => loopAt (c8 N) a8 [1, 1, 1, 1, 0, 1, 0] [] (codeOf Try.f8) (k8 N) n (h8_0 w0 w1 w2 w3 w4 w5 w6 w7 w8 w9)) (fun w0 w1 w2 w3 w4 w5 w6 w7 w8 w9 => loopAt (c8 N) a8 [1, 1, 1, 1, 1, 0, 1, 0] [] (codeOf Try.f8) (k8 N) N (h8_1 w0 w1 w2 w3 w4 w5 w6 w7 w8 w9)) u0_0 u0_1 u0_2 u0_3 u0_4 u0_5 u0_6 u0_7 u0_8 u0_9 := by kernel_rfl
    refine e.trans ?_
    have e1 : (fun w0 w1 w2 w3 w4 w5 w6 w7 w8 w9 => loopAt (c8 N) a8 [1, 1, 1, 1, 1, 0, 1, 0] [] (codeOf Try.f8) (k8 N) N (h8_1 w0 w1 w2 w3 w4 w5 w6 w7 w8 w9)) = m_ticketlineref14_Plan_Page_l1 N N := by
      funext w0 w1 w2 w3 w4 w5 w6 w7 w8 w9; exact t8_1 N N w0 w1 w2 w3 w4 w5 w6 w7 w8 w9
    rw [e1]
    have es : (fun w0 w1 w2 w3 w4 w5 w6 w7 w8 w9 => loopAt (c8 N) a8 [1, 1, 1, 1, 0, 1, 0] [] (codeOf Try.f8) (k8 N) n (h8_0 w0 w1 w2 w3 w4 w5 w6 w7 w8 w9)) = m_ticketlineref14_Plan_Page_l0 N n := by
      funext w0 w1 w2 w3 w4 w5 w6 w7 w8 w9; exact ih w0 w1 w2 w3 w4 w5 w6 w7 w8 w9
    rw [es]
    rw [m_ticketlineref14_Plan_Page_l0]
theorem ew8 : ∀ (N : Nat) (x : g8.ps.den), evalFn (c8 N) an8 Try.f8 (codeOf Try.f8) g8 x (fun p => (p.1.1, p.1.2.1)) = m_ticketlineref14_Plan_Page_a (m_ticketlineref14_Plan_Page_l0 N N) x.1 := by
  intro N
  intro x
  obtain ⟨x0, xu⟩ := x
  have e : evalFn (c8 N) an8 Try.f8 (codeOf Try.f8) g8 (x0, xu) (fun p => (p.1.1, p.1.2.1)) = m_ticketlineref14_Plan_Page_a (fun w0 w1 w2 w3 w4 w5 w6 w7 w8 w9 => loopAt (c8 N) a8 [1, 1, 1, 1, 0, 1, 0] [] (codeOf Try.f8) (k8 N) N (h8_0 w0 w1 w2 w3 w4 w5 w6 w7 w8 w9)) x0 := by kernel_rfl
  refine e.trans ?_
  have e0 : (fun w0 w1 w2 w3 w4 w5 w6 w7 w8 w9 => loopAt (c8 N) a8 [1, 1, 1, 1, 0, 1, 0] [] (codeOf Try.f8) (k8 N) N (h8_0 w0 w1 w2 w3 w4 w5 w6 w7 w8 w9)) = m_ticketlineref14_Plan_Page_l0 N N := by
    funext w0 w1 w2 w3 w4 w5 w6 w7 w8 w9; exact t8_0 N N w0 w1 w2 w3 w4 w5 w6 w7 w8 w9
  rw [e0]
theorem ev8 : ∀ x : g8.ps.den, evalFn (c8 FUEL) an8 Try.f8 (codeOf Try.f8) g8 x (fun p => (p.1.1, p.1.2.1)) = g8.m x := fun x => ew8 FUEL x
theorem meets8 : Meets Try.prog 8 g8 :=
  meets_of (C := c8 FUEL) (ann := an8) (mkC_ok (gs := [(25, g25), (26, g26), (27, g27)]) (is := []) (mt := mtL) tysOK elemOK ⟨meets25, meets26, meets27, trivial⟩ trivial mtOK FUEL) mixed Try.func8 (by kernel_rfl) (by kernel_rfl) (by kernel_rfl) (of_decide_eq_true (by kernel_rfl)) (fun p => (p.1.1, p.1.2.1)) (fun _ _ => ⟨rfl, rfl⟩) ev8
def c62 (N : Nat) : Cx := mkC tyL [] [] mtL N
def g62 : Sig := ⟨(.cons (.pure (.int .i64)) .nl), (.cons (.pure (.int .i64)) .nl), Int, fun x => m_keys_Words x.1, fun _ y => (y, ()), fun _ y => ((), ())⟩
def an62 : Nat → Ann := mkA []
theorem ev62 : ∀ x : g62.ps.den, evalFn (c62 FUEL) an62 Try.f62 (codeOf Try.f62) g62 x (fun p => p.1.1) = g62.m x := by
  intro x
  obtain ⟨x0, xu⟩ := x
  show _ = _
  kernel_rfl
theorem meets62 : Meets Try.prog 62 g62 :=
  meets_of (C := c62 FUEL) (ann := an62) (mkC_ok (gs := []) (is := []) (mt := mtL) tysOK elemOK trivial trivial mtOK FUEL) mixed Try.func62 (by kernel_rfl) (by kernel_rfl) (by kernel_rfl) (of_decide_eq_true (by kernel_rfl)) (fun p => p.1.1) (fun _ _ => ⟨rfl, rfl⟩) ev62
def c51 (N : Nat) : Cx := mkC tyL [(62, g62)] [] mtL N
def g51 : Sig := ⟨(.cons (.pure (.int .u64)) .nl), (.cons (.pure (.pair (.int .i64) (.pair (.int .i64) (.pair (.int .i64) (.pair (.int .i64) (.pair (.int .i64) .nl)))))) .nl), (Int × (Int × (Int × (Int × (Int × Unit))))), fun x => m_slot_entryOf x.1, fun _ y => (y, ()), fun _ y => ((), ())⟩
def an51 : Nat → Ann := mkA []
theorem ev51 : ∀ x : g51.ps.den, evalFn (c51 FUEL) an51 Try.f51 (codeOf Try.f51) g51 x (fun p => p.1.1) = g51.m x := by
  intro x
  obtain ⟨x0, xu⟩ := x
  show _ = _
  kernel_rfl
theorem meets51 : Meets Try.prog 51 g51 :=
  meets_of (C := c51 FUEL) (ann := an51) (mkC_ok (gs := [(62, g62)]) (is := []) (mt := mtL) tysOK elemOK ⟨meets62, trivial⟩ trivial mtOK FUEL) mixed Try.func51 (by kernel_rfl) (by kernel_rfl) (by kernel_rfl) (of_decide_eq_true (by kernel_rfl)) (fun p => p.1.1) (fun _ _ => ⟨rfl, rfl⟩) ev51
def c67 (N : Nat) : Cx := mkC tyL [(62, g62)] [] mtL N
def g67 : Sig := ⟨(.cons (.pure (.sl (.int .u64))) (.cons (.pure (.int .i64)) .nl)), (.cons (.pure .str) (.cons (.pure (.int .i64)) .nl)), (ByteArray × Int), fun x => m_keys_Unpack x.1 x.2.1, fun _ y => (y.1, (y.2, ())), fun _ y => ((), ((), ()))⟩
def an67 : Nat → Ann := mkA [(9, ⟨[1, 24, 25, 26], [(6, (.int .u8))], [], false⟩), (12, ⟨[1, 8, 9, 24, 25, 26], [(6, (.int .u8))], [], false⟩), (17, ⟨[1, 6, 45, 46, 47], [], [300006], false⟩)]
noncomputable def k67 (N : Nat) : Ex → St → Option (ByteArray × Int) := finK (c67 N) Try.f67 g67 (.cons .top (.cons .top .nl)) (fun p => (p.1.1, p.1.2.1))
def a67 : Nat → Ann := annP [] an67
def h67_1 (u1_0 : Int) (u1_1 : Int) (u1_2 : Int) (u1_3 : (List Int)) (u1_4 : Int) (u1_5 : Int) (u1_6 : (List Int)) : St := ⟨58, [(6, .full 300006), (1, (.int .i64 u1_0)), (8, (.int .u64 u1_1)), (9, (.int .i64 u1_2)), (24, (.lst (.int .u64) u1_3)), (25, (.int .i64 u1_4)), (26, (.int .i64 u1_5))], [(300006, (.bk (.int .u8) u1_6))]⟩
def h67_2 (u2_0 : Int) (u2_1 : Int) (u2_2 : Int) (u2_3 : Int) (u2_4 : Int) (u2_5 : (List Int)) : St := ⟨58, [(1, (.int .i64 u2_0)), (6, (.full 300006)), (45, (.view 300006 [] u2_1 u2_2)), (46, (.int .i64 u2_3)), (47, (.int .i64 u2_4))], [(300006, (.bk (.int .u8) u2_5))]⟩
def h67_0 (u0_0 : Int) (u0_1 : (List Int)) (u0_2 : Int) (u0_3 : Int) (u0_4 : (List Int)) : St := ⟨58, [(6, .full 300006), (1, (.int .i64 u0_0)), (24, (.lst (.int .u64) u0_1)), (25, (.int .i64 u0_2)), (26, (.int .i64 u0_3))], [(300006, (.bk (.int .u8) u0_4))]⟩
theorem t67_1 : ∀ (N : Nat) (m0 : Nat) (n : Nat) (u1_0 : Int) (u1_1 : Int) (u1_2 : Int) (u1_3 : (List Int)) (u1_4 : Int) (u1_5 : Int) (u1_6 : (List Int)), loopAt (c67 N) a67 [1, 1, 1, 0, 1, 0, 0, 1, 1, 0, 0, 1, 1, 0] [m0] (codeOf Try.f67) (k67 N) n (h67_1 u1_0 u1_1 u1_2 u1_3 u1_4 u1_5 u1_6) = m_keys_Unpack_l1 N (fun w0 w1 w2 w3 w4 => loopAt (c67 N) a67 [1, 1, 1, 0, 1, 0] [] (codeOf Try.f67) (k67 N) m0 (h67_0 w0 w1 w2 w3 w4)) n u1_0 u1_1 u1_2 u1_3 u1_4 u1_5 u1_6 := by
  intro N m0 n
  induction n with
  | zero => intro u1_0 u1_1 u1_2 u1_3 u1_4 u1_5 u1_6; kernel_rfl
  | succ n ih =>
    intro u1_0 u1_1 u1_2 u1_3 u1_4 u1_5 u1_6
    have e : loopAt (c67 N) a67 [1, 1, 1, 0, 1, 0, 0, 1, 1, 0, 0, 1, 1, 0] [m0] (codeOf Try.f67) (k67 N) (n + 1) (h67_1 u1_0 u1_1 u1_2 u1_3 u1_4 u1_5 u1_6) = m_keys_Unpack_l1_b (fun w0 w1 w2 w3 w4 => loopAt (c67 N) a67 [1, 1, 1, 0, 1, 0] [] (codeOf Try.f67) (k67 N) m0 (h67_0 w0 w1 w2 w3 w4)) (fun w0 w1 w2 w3 w4 w5 w6 => loopAt (c67 N) a67 [1, 1, 1, 0, 1, 0, 0, 1, 1, 0, 0, 1, 1, 0] [m0] (codeOf Try.f67) (k67 N) n (h67_1 w0 w1 w2 w3 w4 w5 w6)) u1_0 u1_1 u1_2 u1_3 u1_4 u1_5 u1_6 := by kernel_rfl
    refine e.trans ?_
    have es : (fun w0 w1 w2 w3 w4 w5 w6 => loopAt (c67 N) a67 [1, 1, 1, 0, 1, 0, 0, 1, 1, 0, 0, 1, 1, 0] [m0] (codeOf Try.f67) (k67 N) n (h67_1 w0 w1 w2 w3 w4 w5 w6)) = m_keys_Unpack_l1 N (fun w0 w1 w2 w3 w4 => loopAt (c67 N) a67 [1, 1, 1, 0, 1, 0] [] (codeOf Try.f67) (k67 N) m0 (h67_0 w0 w1 w2 w3 w4)) n := by
      funext w0 w1 w2 w3 w4 w5 w6; exact ih w0 w1 w2 w3 w4 w5 w6
    rw [es]
    rw [m_keys_Unpack_l1]
theorem t67_2 : ∀ (N : Nat) (n : Nat) (u2_0 : Int) (u2_1 : Int) (u2_2 : Int) (u2_3 : Int) (u2_4 : Int) (u2_5 : (List Int)), loopAt (c67 N) a67 [1, 1, 1, 1, 0, 1, 0] [] (codeOf Try.f67) (k67 N) n (h67_2 u2_0 u2_1 u2_2 u2_3 u2_4 u2_5) = m_keys_Unpack_l2 N n u2_0 u2_1 u2_2 u2_3 u2_4 u2_5 := by
  intro N n
  induction n with
  | zero => intro u2_0 u2_1 u2_2 u2_3 u2_4 u2_5; kernel_rfl
  | succ n ih =>
    intro u2_0 u2_1 u2_2 u2_3 u2_4 u2_5
    have e : loopAt (c67 N) a67 [1, 1, 1, 1, 0, 1, 0] [] (codeOf Try.f67) (k67 N) (n + 1) (h67_2 u2_0 u2_1 u2_2 u2_3 u2_4 u2_5) = m_keys_Unpack_l2_b (fun w0 w1 w2 w3 w4 w5 => loopAt (c67 N) a67 [1, 1, 1, 1, 0, 1, 0] [] (codeOf Try.f67) (k67 N) n (h67_2 w0 w1 w2 w3 w4 w5)) u2_0 u2_1 u2_2 u2_3 u2_4 u2_5 := by kernel_rfl
    refine e.trans ?_
    have es : (fun w0 w1 w2 w3 w4 w5 => loopAt (c67 N) a67 [1, 1, 1, 1, 0, 1, 0] [] (codeOf Try.f67) (k67 N) n (h67_2 w0 w1 w2 w3 w4 w5)) = m_keys_Unpack_l2 N n := by
      funext w0 w1 w2 w3 w4 w5; exact ih w0 w1 w2 w3 w4 w5
    rw [es]
    rw [m_keys_Unpack_l2]
theorem t67_0 : ∀ (N : Nat) (n : Nat) (u0_0 : Int) (u0_1 : (List Int)) (u0_2 : Int) (u0_3 : Int) (u0_4 : (List Int)), loopAt (c67 N) a67 [1, 1, 1, 0, 1, 0] [] (codeOf Try.f67) (k67 N) n (h67_0 u0_0 u0_1 u0_2 u0_3 u0_4) = m_keys_Unpack_l0 N n u0_0 u0_1 u0_2 u0_3 u0_4 := by
  intro N n
  induction n with
  | zero => intro u0_0 u0_1 u0_2 u0_3 u0_4; kernel_rfl
  | succ n ih =>
    intro u0_0 u0_1 u0_2 u0_3 u0_4
    have e : loopAt (c67 N) a67 [1, 1, 1, 0, 1, 0] [] (codeOf Try.f67) (k67 N) (n + 1) (h67_0 u0_0 u0_1 u0_2 u0_3 u0_4) = m_keys_Unpack_l0_b (fun w0 w1 w2 w3 w4 => loopAt (c67 N) a67 [1, 1, 1, 0, 1, 0] [] (codeOf Try.f67) (k67 N) n (h67_0 w0 w1 w2 w3 w4)) (fun w0 w1 w2 w3 w4 w5 w6 => loopAt (c67 N) a67 [1, 1, 1, 0, 1, 0, 0, 1, 1, 0, 0, 1, 1, 0] [n] (codeOf Try.f67) (k67 N) N (h67_1 w0 w1 w2 w3 w4 w5 w6)) (fun w0 w1 w2 w3 w4 w5 => loopAt (c67 N) a67 [1, 1, 1, 1, 0, 1, 0] [] (codeOf Try.f67) (k67 N) N (h67_2 w0 w1 w2 w3 w4 w5)) u0_0 u0_1 u0_2 u0_3 u0_4 := by kernel_rfl
    refine e.trans ?_
    have e1 : (fun w0 w1 w2 w3 w4 w5 w6 => loopAt (c67 N) a67 [1, 1, 1, 0, 1, 0, 0, 1, 1, 0, 0, 1, 1, 0] [n] (codeOf Try.f67) (k67 N) N (h67_1 w0 w1 w2 w3 w4 w5 w6)) = m_keys_Unpack_l1 N (fun w0 w1 w2 w3 w4 => loopAt (c67 N) a67 [1, 1, 1, 0, 1, 0] [] (codeOf Try.f67) (k67 N) n (h67_0 w0 w1 w2 w3 w4)) N := by
      funext w0 w1 w2 w3 w4 w5 w6; exact t67_1 N n N w0 w1 w2 w3 w4 w5 w6
    rw [e1]
    have e2 : (fun w0 w1 w2 w3 w4 w5 => loopAt (c67 N) a67 [1, 1, 1, 1, 0, 1, 0] [] (codeOf Try.f67) (k67 N) N (h67_2 w0 w1 w2 w3 w4 w5)) = m_keys_Unpack_l2 N N := by
      funext w0 w1 w2 w3 w4 w5; exact t67_2 N N w0 w1 w2 w3 w4 w5
    rw [e2]
    have es : (fun w0 w1 w2 w3 w4 => loopAt (c67 N) a67 [1, 1, 1, 0, 1, 0] [] (codeOf Try.f67) (k67 N) n (h67_0 w0 w1 w2 w3 w4)) = m_keys_Unpack_l0 N n := by
      funext w0 w1 w2 w3 w4; exact ih w0 w1 w2 w3 w4
    rw [es]
    rw [m_keys_Unpack_l0]
theorem ew67 : ∀ (N : Nat) (x : g67.ps.den), evalFn (c67 N) an67 Try.f67 (codeOf Try.f67) g67 x (fun p => (p.1.1, p.1.2.1)) = m_keys_Unpack_a (m_keys_Unpack_l0 N N) x.1 x.2.1 := by
  intro N
  intro x
  obtain ⟨x0, x1, xu⟩ := x
  have e : evalFn (c67 N) an67 Try.f67 (codeOf Try.f67) g67 (x0, x1, xu) (fun p => (p.1.1, p.1.2.1)) = m_keys_Unpack_a (fun w0 w1 w2 w3 w4 => loopAt (c67 N) a67 [1, 1, 1, 0, 1, 0] [] (codeOf Try.f67) (k67 N) N (h67_0 w0 w1 w2 w3 w4)) x0 x1 := by kernel_rfl
  refine e.trans ?_
  have e0 : (fun w0 w1 w2 w3 w4 => loopAt (c67 N) a67 [1, 1, 1, 0, 1, 0] [] (codeOf Try.f67) (k67 N) N (h67_0 w0 w1 w2 w3 w4)) = m_keys_Unpack_l0 N N := by
    funext w0 w1 w2 w3 w4; exact t67_0 N N w0 w1 w2 w3 w4
  rw [e0]
theorem ev67 : ∀ x : g67.ps.den, evalFn (c67 FUEL) an67 Try.f67 (codeOf Try.f67) g67 x (fun p => (p.1.1, p.1.2.1)) = g67.m x := fun x => ew67 FUEL x
theorem meets67 : Meets Try.prog 67 g67 :=
  meets_of (C := c67 FUEL) (ann := an67) (mkC_ok (gs := [(62, g62)]) (is := []) (mt := mtL) tysOK elemOK ⟨meets62, trivial⟩ trivial mtOK FUEL) mixed Try.func67 (by kernel_rfl) (by kernel_rfl) (by kernel_rfl) (of_decide_eq_true (by kernel_rfl)) (fun p => (p.1.1, p.1.2.1)) (fun _ _ => ⟨rfl, rfl⟩) ev67
def c57 (N : Nat) : Cx := mkC tyL [(62, g62), (67, g67)] [] mtL N
def g57 : Sig := ⟨(.cons (.rptr (.arr 128 (.int .u64))) (.cons (.pure (.int .i64)) .nl)), (.cons (.pure .str) (.cons (.pure (.int .i64)) .nl)), (ByteArray × Int), fun x => m_slot_fence x.1 x.2.1, fun _ y => (y.1, (y.2, ())), fun _ y => ((), ((), ()))⟩
def an57 : Nat → Ann := mkA [(6, ⟨[0, 1, 6, 7, 32, 33, 34], [], [], false⟩)]
noncomputable def k57 (N : Nat) : Ex → St → Option (ByteArray × Int) := finK (c57 N) Try.f57 g57 (.cons .top (.cons .top .nl)) (fun p => (p.1.1, p.1.2.1))
def a57 : Nat → Ann := annP [] an57
def h57_0 (u0_0 : (List Int)) (u0_1 : Int) (u0_2 : Int) (u0_3 : Int) (u0_4 : (List Int)) (u0_5 : Int) (u0_6 : Int) : St := ⟨51, [(0, (.pref (.arr 128 (.int .u64)) u0_0)), (1, (.int .i64 u0_1)), (6, (.int .i64 u0_2)), (7, (.int .i64 u0_3)), (32, (.lst (.int .u64) u0_4)), (33, (.int .i64 u0_5)), (34, (.int .i64 u0_6))], []⟩
theorem t57_0 : ∀ (N : Nat) (n : Nat) (u0_0 : (List Int)) (u0_1 : Int) (u0_2 : Int) (u0_3 : Int) (u0_4 : (List Int)) (u0_5 : Int) (u0_6 : Int), loopAt (c57 N) a57 [1, 1, 1, 1, 0, 1, 0] [] (codeOf Try.f57) (k57 N) n (h57_0 u0_0 u0_1 u0_2 u0_3 u0_4 u0_5 u0_6) = m_slot_fence_l0 N n u0_0 u0_1 u0_2 u0_3 u0_4 u0_5 u0_6 := by
  intro N n
  induction n with
  | zero => intro u0_0 u0_1 u0_2 u0_3 u0_4 u0_5 u0_6; kernel_rfl
  | succ n ih =>
    intro u0_0 u0_1 u0_2 u0_3 u0_4 u0_5 u0_6
    have e : loopAt (c57 N) a57 [1, 1, 1, 1, 0, 1, 0] [] (codeOf Try.f57) (k57 N) (n + 1) (h57_0 u0_0 u0_1 u0_2 u0_3 u0_4 u0_5 u0_6) = m_slot_fence_l0_b (fun w0 w1 w2 w3 w4 w5 w6 => loopAt (c57 N) a57 [1, 1, 1, 1, 0, 1, 0] [] (codeOf Try.f57) (k57 N) n (h57_0 w0 w1 w2 w3 w4 w5 w6)) u0_0 u0_1 u0_2 u0_3 u0_4 u0_5 u0_6 := by kernel_rfl
    refine e.trans ?_
    have es : (fun w0 w1 w2 w3 w4 w5 w6 => loopAt (c57 N) a57 [1, 1, 1, 1, 0, 1, 0] [] (codeOf Try.f57) (k57 N) n (h57_0 w0 w1 w2 w3 w4 w5 w6)) = m_slot_fence_l0 N n := by
      funext w0 w1 w2 w3 w4 w5 w6; exact ih w0 w1 w2 w3 w4 w5 w6
    rw [es]
    rw [m_slot_fence_l0]
theorem ew57 : ∀ (N : Nat) (x : g57.ps.den), evalFn (c57 N) an57 Try.f57 (codeOf Try.f57) g57 x (fun p => (p.1.1, p.1.2.1)) = m_slot_fence_a (m_slot_fence_l0 N N) x.1 x.2.1 := by
  intro N
  intro x
  obtain ⟨x0, x1, xu⟩ := x
  have e : evalFn (c57 N) an57 Try.f57 (codeOf Try.f57) g57 (x0, x1, xu) (fun p => (p.1.1, p.1.2.1)) = m_slot_fence_a (fun w0 w1 w2 w3 w4 w5 w6 => loopAt (c57 N) a57 [1, 1, 1, 1, 0, 1, 0] [] (codeOf Try.f57) (k57 N) N (h57_0 w0 w1 w2 w3 w4 w5 w6)) x0 x1 := by kernel_rfl
  refine e.trans ?_
  have e0 : (fun w0 w1 w2 w3 w4 w5 w6 => loopAt (c57 N) a57 [1, 1, 1, 1, 0, 1, 0] [] (codeOf Try.f57) (k57 N) N (h57_0 w0 w1 w2 w3 w4 w5 w6)) = m_slot_fence_l0 N N := by
    funext w0 w1 w2 w3 w4 w5 w6; exact t57_0 N N w0 w1 w2 w3 w4 w5 w6
  rw [e0]
theorem ev57 : ∀ x : g57.ps.den, evalFn (c57 FUEL) an57 Try.f57 (codeOf Try.f57) g57 x (fun p => (p.1.1, p.1.2.1)) = g57.m x := fun x => ew57 FUEL x
theorem meets57 : Meets Try.prog 57 g57 :=
  meets_of (C := c57 FUEL) (ann := an57) (mkC_ok (gs := [(62, g62), (67, g67)]) (is := []) (mt := mtL) tysOK elemOK ⟨meets62, meets67, trivial⟩ trivial mtOK FUEL) mixed Try.func57 (by kernel_rfl) (by kernel_rfl) (by kernel_rfl) (of_decide_eq_true (by kernel_rfl)) (fun p => (p.1.1, p.1.2.1)) (fun _ _ => ⟨rfl, rfl⟩) ev57
def c63 (N : Nat) : Cx := mkC tyL [(57, g57)] [] mtL N
def g63 : Sig := ⟨(.cons (.rptr (.arr 128 (.int .u64))) .nl), (.cons (.pure .bool) .nl), Bool, fun x => m_slot_head x.1, fun _ y => (y, ()), fun _ y => ((), ())⟩
def an63 : Nat → Ann := mkA []
theorem ev63 : ∀ x : g63.ps.den, evalFn (c63 FUEL) an63 Try.f63 (codeOf Try.f63) g63 x (fun p => p.1.1) = g63.m x := by
  intro x
  obtain ⟨x0, xu⟩ := x
  show _ = _
  kernel_rfl
theorem meets63 : Meets Try.prog 63 g63 :=
  meets_of (C := c63 FUEL) (ann := an63) (mkC_ok (gs := [(57, g57)]) (is := []) (mt := mtL) tysOK elemOK ⟨meets57, trivial⟩ trivial mtOK FUEL) mixed Try.func63 (by kernel_rfl) (by kernel_rfl) (by kernel_rfl) (of_decide_eq_true (by kernel_rfl)) (fun p => p.1.1) (fun _ _ => ⟨rfl, rfl⟩) ev63
def c64 (N : Nat) : Cx := mkC tyL [(51, g51)] [] mtL N
def g64 : Sig := ⟨(.cons (.rptr (.arr 128 (.int .u64))) (.cons (.pure (.int .i64)) .nl)), (.cons (.pure .bool) .nl), Bool, fun x => m_slot_sized x.1 x.2.1, fun _ y => (y, ()), fun _ y => ((), ((), ()))⟩
def an64 : Nat → Ann := mkA []
theorem ev64 : ∀ x : g64.ps.den, evalFn (c64 FUEL) an64 Try.f64 (codeOf Try.f64) g64 x (fun p => p.1.1) = g64.m x := by
  intro x
  obtain ⟨x0, x1, xu⟩ := x
  show _ = _
  kernel_rfl
theorem meets64 : Meets Try.prog 64 g64 :=
  meets_of (C := c64 FUEL) (ann := an64) (mkC_ok (gs := [(51, g51)]) (is := []) (mt := mtL) tysOK elemOK ⟨meets51, trivial⟩ trivial mtOK FUEL) mixed Try.func64 (by kernel_rfl) (by kernel_rfl) (by kernel_rfl) (of_decide_eq_true (by kernel_rfl)) (fun p => p.1.1) (fun _ _ => ⟨rfl, rfl⟩) ev64
def c65 (N : Nat) : Cx := mkC tyL [(67, g67)] [] mtL N
def g65 : Sig := ⟨(.cons (.rptr (.arr 128 (.int .u64))) (.cons (.pure (.pair (.int .i64) (.pair (.int .i64) (.pair (.int .i64) (.pair (.int .i64) (.pair (.int .i64) .nl)))))) .nl)), (.cons (.pure (.pair .str (.pair .str .nl))) (.cons (.pure (.int .i64)) .nl)), ((ByteArray × (ByteArray × Unit)) × Int), fun x => m_slot_text x.1 x.2.1, fun _ y => (y.1, (y.2, ())), fun _ y => ((), ((), ()))⟩
def an65 : Nat → Ann := mkA []
theorem ev65 : ∀ x : g65.ps.den, evalFn (c65 FUEL) an65 Try.f65 (codeOf Try.f65) g65 x (fun p => (p.1.1, p.1.2.1)) = g65.m x := by
  intro x
  obtain ⟨x0, x1, xu⟩ := x
  show _ = _
  kernel_rfl
theorem meets65 : Meets Try.prog 65 g65 :=
  meets_of (C := c65 FUEL) (ann := an65) (mkC_ok (gs := [(67, g67)]) (is := []) (mt := mtL) tysOK elemOK ⟨meets67, trivial⟩ trivial mtOK FUEL) mixed Try.func65 (by kernel_rfl) (by kernel_rfl) (by kernel_rfl) (of_decide_eq_true (by kernel_rfl)) (fun p => (p.1.1, p.1.2.1)) (fun _ _ => ⟨rfl, rfl⟩) ev65
def c52 (N : Nat) : Cx := mkC tyL [(51, g51), (63, g63), (64, g64), (65, g65)] [] mtL N
def g52 : Sig := ⟨(.cons (.rptr (.arr 128 (.int .u64))) .nl), (.cons (.own (.pair .str (.pair .str .nl))) (.cons (.pure .bool) .nl)), ((List (ByteArray × (ByteArray × Unit))) × Bool), fun x => m_slot_list x.1, fun _ y => (y.1, (y.2, ())), fun _ y => ((), ())⟩
def an52 : Nat → Ann := mkA [(6, ⟨[0, 5, 18, 19], [(4, (.pair .str (.pair .str .nl)))], [5], false⟩), (15, ⟨[0, 4, 5, 7, 8, 10, 18, 19], [], [300004, 5, 7, 8], false⟩)]
noncomputable def k52 (N : Nat) : Ex → St → Option ((List (ByteArray × (ByteArray × Unit))) × Bool) := finK (c52 N) Try.f52 g52 (.cons .top .nl) (fun p => (p.1.1, p.1.2.1))
def a52 : Nat → Ann := annP [] an52
def h52_1 (u1_0 : (List Int)) (u1_1 : Int) (u1_2 : Int) (u1_3 : Int) (u1_4 : (List (ByteArray × (ByteArray × Unit)))) (u1_5 : (List Bool)) (u1_6 : Int) (u1_7 : Int) (u1_8 : Int) (u1_9 : Int) (u1_10 : Int) (u1_11 : ByteArray) (u1_12 : ByteArray) : St := ⟨85, [(0, (.pref (.arr 128 (.int .u64)) u1_0)), (4, (.full 300004)), (5, (.ref 5 [])), (7, (.ref 7 [])), (8, (.ref 8 [])), (10, (.int .i64 u1_1)), (18, (.int .i64 u1_2)), (19, (.int .i64 u1_3))], [(300004, (.bk (.pair .str (.pair .str .nl)) u1_4)), (5, (.arr .bool 128 u1_5)), (7, (.cons (.int .i64 u1_6) (.cons (.int .i64 u1_7) (.cons (.int .i64 u1_8) (.cons (.int .i64 u1_9) (.cons (.int .i64 u1_10) .nl)))))), (8, (.cons (.str u1_11) (.cons (.str u1_12) .nl)))]⟩
def h52_0 (u0_0 : (List Int)) (u0_1 : Int) (u0_2 : Int) (u0_3 : (List Bool)) (u0_4 : (List (ByteArray × (ByteArray × Unit)))) : St := ⟨85, [(4, .full 300004), (0, (.pref (.arr 128 (.int .u64)) u0_0)), (5, (.ref 5 [])), (18, (.int .i64 u0_1)), (19, (.int .i64 u0_2))], [(5, (.arr .bool 128 u0_3)), (300004, (.bk (.pair .str (.pair .str .nl)) u0_4))]⟩
theorem t52_1 : ∀ (N : Nat) (m0 : Nat) (n : Nat) (u1_0 : (List Int)) (u1_1 : Int) (u1_2 : Int) (u1_3 : Int) (u1_4 : (List (ByteArray × (ByteArray × Unit)))) (u1_5 : (List Bool)) (u1_6 : Int) (u1_7 : Int) (u1_8 : Int) (u1_9 : Int) (u1_10 : Int) (u1_11 : ByteArray) (u1_12 : ByteArray), loopAt (c52 N) a52 [1, 1, 1, 1, 0, 1, 0, 0, 1, 1, 0, 0, 1, 1, 1, 1, 1, 0, 1, 0] [m0] (codeOf Try.f52) (k52 N) n (h52_1 u1_0 u1_1 u1_2 u1_3 u1_4 u1_5 u1_6 u1_7 u1_8 u1_9 u1_10 u1_11 u1_12) = m_slot_list_l1 N (fun w0 w1 w2 w3 w4 => loopAt (c52 N) a52 [1, 1, 1, 1, 0, 1, 0] [] (codeOf Try.f52) (k52 N) m0 (h52_0 w0 w1 w2 w3 w4)) n u1_0 u1_1 u1_2 u1_3 u1_4 u1_5 u1_6 u1_7 u1_8 u1_9 u1_10 u1_11 u1_12 := by
  intro N m0 n
  induction n with
  | zero => intro u1_0 u1_1 u1_2 u1_3 u1_4 u1_5 u1_6 u1_7 u1_8 u1_9 u1_10 u1_11 u1_12; kernel_rfl
  | succ n ih =>
    intro u1_0 u1_1 u1_2 u1_3 u1_4 u1_5 u1_6 u1_7 u1_8 u1_9 u1_10 u1_11 u1_12
    have e : loopAt (c52 N) a52 [1, 1, 1, 1, 0, 1, 0, 0, 1, 1, 0, 0, 1, 1, 1, 1, 1, 0, 1, 0] [m0] (codeOf Try.f52) (k52 N) (n + 1) (h52_1 u1_0 u1_1 u1_2 u1_3 u1_4 u1_5 u1_6 u1_7 u1_8 u1_9 u1_10 u1_11 u1_12) = m_slot_list_l1_b (fun w0 w1 w2 w3 w4 => loopAt (c52 N) a52 [1, 1, 1, 1, 0, 1, 0] [] (codeOf Try.f52) (k52 N) m0 (h52_0 w0 w1 w2 w3 w4)) (fun w0 w1 w2 w3 w4 w5 w6 w7 w8 w9 w10 w11 w12 => loopAt (c52 N) a52 [1, 1, 1, 1, 0, 1, 0, 0, 1, 1, 0, 0, 1, 1, 1, 1, 1, 0, 1, 0] [m0] (codeOf Try.f52) (k52 N) n (h52_1 w0 w1 w2 w3 w4 w5 w6 w7 w8 w9 w10 w11 w12)) u1_0 u1_1 u1_2 u1_3 u1_4 u1_5 u1_6 u1_7 u1_8 u1_9 u1_10 u1_11 u1_12 := by kernel_rfl
    refine e.trans ?_
    have es : (fun w0 w1 w2 w3 w4 w5 w6 w7 w8 w9 w10 w11 w12 => loopAt (c52 N) a52 [1, 1, 1, 1, 0, 1, 0, 0, 1, 1, 0, 0, 1, 1, 1, 1, 1, 0, 1, 0] [m0] (codeOf Try.f52) (k52 N) n (h52_1 w0 w1 w2 w3 w4 w5 w6 w7 w8 w9 w10 w11 w12)) = m_slot_list_l1 N (fun w0 w1 w2 w3 w4 => loopAt (c52 N) a52 [1, 1, 1, 1, 0, 1, 0] [] (codeOf Try.f52) (k52 N) m0 (h52_0 w0 w1 w2 w3 w4)) n := by
      funext w0 w1 w2 w3 w4 w5 w6 w7 w8 w9 w10 w11 w12; exact ih w0 w1 w2 w3 w4 w5 w6 w7 w8 w9 w10 w11 w12
    rw [es]
    rw [m_slot_list_l1]
theorem t52_0 : ∀ (N : Nat) (n : Nat) (u0_0 : (List Int)) (u0_1 : Int) (u0_2 : Int) (u0_3 : (List Bool)) (u0_4 : (List (ByteArray × (ByteArray × Unit)))), loopAt (c52 N) a52 [1, 1, 1, 1, 0, 1, 0] [] (codeOf Try.f52) (k52 N) n (h52_0 u0_0 u0_1 u0_2 u0_3 u0_4) = m_slot_list_l0 N n u0_0 u0_1 u0_2 u0_3 u0_4 := by
  intro N n
  induction n with
  | zero => intro u0_0 u0_1 u0_2 u0_3 u0_4; kernel_rfl
  | succ n ih =>
    intro u0_0 u0_1 u0_2 u0_3 u0_4
    have e : loopAt (c52 N) a52 [1, 1, 1, 1, 0, 1, 0] [] (codeOf Try.f52) (k52 N) (n + 1) (h52_0 u0_0 u0_1 u0_2 u0_3 u0_4) = m_slot_list_l0_b (fun w0 w1 w2 w3 w4 => loopAt (c52 N) a52 [1, 1, 1, 1, 0, 1, 0] [] (codeOf Try.f52) (k52 N) n (h52_0 w0 w1 w2 w3 w4)) (fun w0 w1 w2 w3 w4 w5 w6 w7 w8 w9 w10 w11 w12 => loopAt (c52 N) a52 [1, 1, 1, 1, 0, 1, 0, 0, 1, 1, 0, 0, 1, 1, 1, 1, 1, 0, 1, 0] [n] (codeOf Try.f52) (k52 N) N (h52_1 w0 w1 w2 w3 w4 w5 w6 w7 w8 w9 w10 w11 w12)) u0_0 u0_1 u0_2 u0_3 u0_4 := by kernel_rfl
    refine e.trans ?_
    have e1 : (fun w0 w1 w2 w3 w4 w5 w6 w7 w8 w9 w10 w11 w12 => loopAt (c52 N) a52 [1, 1, 1, 1, 0, 1, 0, 0, 1, 1, 0, 0, 1, 1, 1, 1, 1, 0, 1, 0] [n] (codeOf Try.f52) (k52 N) N (h52_1 w0 w1 w2 w3 w4 w5 w6 w7 w8 w9 w10 w11 w12)) = m_slot_list_l1 N (fun w0 w1 w2 w3 w4 => loopAt (c52 N) a52 [1, 1, 1, 1, 0, 1, 0] [] (codeOf Try.f52) (k52 N) n (h52_0 w0 w1 w2 w3 w4)) N := by
      funext w0 w1 w2 w3 w4 w5 w6 w7 w8 w9 w10 w11 w12; exact t52_1 N n N w0 w1 w2 w3 w4 w5 w6 w7 w8 w9 w10 w11 w12
    rw [e1]
    have es : (fun w0 w1 w2 w3 w4 => loopAt (c52 N) a52 [1, 1, 1, 1, 0, 1, 0] [] (codeOf Try.f52) (k52 N) n (h52_0 w0 w1 w2 w3 w4)) = m_slot_list_l0 N n := by
      funext w0 w1 w2 w3 w4; exact ih w0 w1 w2 w3 w4
    rw [es]
    rw [m_slot_list_l0]
theorem ew52 : ∀ (N : Nat) (x : g52.ps.den), evalFn (c52 N) an52 Try.f52 (codeOf Try.f52) g52 x (fun p => (p.1.1, p.1.2.1)) = m_slot_list_a (m_slot_list_l0 N N) x.1 := by
  intro N
  intro x
  obtain ⟨x0, xu⟩ := x
  have e : evalFn (c52 N) an52 Try.f52 (codeOf Try.f52) g52 (x0, xu) (fun p => (p.1.1, p.1.2.1)) = m_slot_list_a (fun w0 w1 w2 w3 w4 => loopAt (c52 N) a52 [1, 1, 1, 1, 0, 1, 0] [] (codeOf Try.f52) (k52 N) N (h52_0 w0 w1 w2 w3 w4)) x0 := by kernel_rfl
  refine e.trans ?_
  have e0 : (fun w0 w1 w2 w3 w4 => loopAt (c52 N) a52 [1, 1, 1, 1, 0, 1, 0] [] (codeOf Try.f52) (k52 N) N (h52_0 w0 w1 w2 w3 w4)) = m_slot_list_l0 N N := by
    funext w0 w1 w2 w3 w4; exact t52_0 N N w0 w1 w2 w3 w4
  rw [e0]
theorem ev52 : ∀ x : g52.ps.den, evalFn (c52 FUEL) an52 Try.f52 (codeOf Try.f52) g52 x (fun p => (p.1.1, p.1.2.1)) = g52.m x := fun x => ew52 FUEL x
theorem meets52 : Meets Try.prog 52 g52 :=
  meets_of (C := c52 FUEL) (ann := an52) (mkC_ok (gs := [(51, g51), (63, g63), (64, g64), (65, g65)]) (is := []) (mt := mtL) tysOK elemOK ⟨meets51, meets63, meets64, meets65, trivial⟩ trivial mtOK FUEL) mixed Try.func52 (by kernel_rfl) (by kernel_rfl) (by kernel_rfl) (of_decide_eq_true (by kernel_rfl)) (fun p => (p.1.1, p.1.2.1)) (fun _ _ => ⟨rfl, rfl⟩) ev52
def c53 (N : Nat) : Cx := mkC tyL [(52, g52)] [] mtL N
def g53 : Sig := ⟨(.cons (.pure (.arr 128 (.int .u64))) .nl), (.cons (.own (.pair .str (.pair .str .nl))) (.cons (.pure (.int .i64)) .nl)), ((List (ByteArray × (ByteArray × Unit))) × Int), fun x => m_slot_Pairs x.1, fun _ y => (y.1, (y.2, ())), fun _ y => ((), ())⟩
def an53 : Nat → Ann := mkA []
theorem ev53 : ∀ x : g53.ps.den, evalFn (c53 FUEL) an53 Try.f53 (codeOf Try.f53) g53 x (fun p => (p.1.1, p.1.2.1)) = g53.m x := by
  intro x
  obtain ⟨x0, xu⟩ := x
  show _ = _
  kernel_rfl
theorem meets53 : Meets Try.prog 53 g53 :=
  meets_of (C := c53 FUEL) (ann := an53) (mkC_ok (gs := [(52, g52)]) (is := []) (mt := mtL) tysOK elemOK ⟨meets52, trivial⟩ trivial mtOK FUEL) mixed Try.func53 (by kernel_rfl) (by kernel_rfl) (by kernel_rfl) (of_decide_eq_true (by kernel_rfl)) (fun p => (p.1.1, p.1.2.1)) (fun _ _ => ⟨rfl, rfl⟩) ev53
def c74 (N : Nat) : Cx := mkC tyL [(75, g75)] [] mtL N
def g74 : Sig := ⟨(.cons (.pure .str) (.cons (.pure .str) .nl)), (.cons (.pure (.int .i64)) .nl), Int, fun x => m_internal_bytealg_CompareString x.1 x.2.1, fun _ y => (y, ()), fun _ y => ((), ((), ()))⟩
def an74 : Nat → Ann := mkA []
theorem ev74 : ∀ x : g74.ps.den, evalFn (c74 FUEL) an74 Try.f74 (codeOf Try.f74) g74 x (fun p => p.1.1) = g74.m x := by
  intro x
  obtain ⟨x0, x1, xu⟩ := x
  show _ = _
  kernel_rfl
theorem meets74 : Meets Try.prog 74 g74 :=
  meets_of (C := c74 FUEL) (ann := an74) (mkC_ok (gs := [(75, g75)]) (is := []) (mt := mtL) tysOK elemOK ⟨meets75, trivial⟩ trivial mtOK FUEL) mixed Try.func74 (by kernel_rfl) (by kernel_rfl) (by kernel_rfl) (of_decide_eq_true (by kernel_rfl)) (fun p => p.1.1) (fun _ _ => ⟨rfl, rfl⟩) ev74
def c71 (N : Nat) : Cx := mkC tyL [(74, g74)] [] mtL N
def g71 : Sig := ⟨(.cons (.pure .str) (.cons (.pure .str) .nl)), (.cons (.pure (.int .i64)) .nl), Int, fun x => m_strings_Compare x.1 x.2.1, fun _ y => (y, ()), fun _ y => ((), ((), ()))⟩
def an71 : Nat → Ann := mkA []
theorem ev71 : ∀ x : g71.ps.den, evalFn (c71 FUEL) an71 Try.f71 (codeOf Try.f71) g71 x (fun p => p.1.1) = g71.m x := by
  intro x
  obtain ⟨x0, x1, xu⟩ := x
  show _ = _
  kernel_rfl
theorem meets71 : Meets Try.prog 71 g71 :=
  meets_of (C := c71 FUEL) (ann := an71) (mkC_ok (gs := [(74, g74)]) (is := []) (mt := mtL) tysOK elemOK ⟨meets74, trivial⟩ trivial mtOK FUEL) mixed Try.func71 (by kernel_rfl) (by kernel_rfl) (by kernel_rfl) (of_decide_eq_true (by kernel_rfl)) (fun p => p.1.1) (fun _ _ => ⟨rfl, rfl⟩) ev71
def c60 (N : Nat) : Cx := mkC tyL [(71, g71)] [] mtL N
def g60 : Sig := ⟨(.cons (.pure .str) (.cons (.pure .str) .nl)), (.cons (.pure (.int .i64)) .nl), Int, fun x => m_keys_Compare x.1 x.2.1, fun _ y => (y, ()), fun _ y => ((), ((), ()))⟩
def an60 : Nat → Ann := mkA []
theorem ev60 : ∀ x : g60.ps.den, evalFn (c60 FUEL) an60 Try.f60 (codeOf Try.f60) g60 x (fun p => p.1.1) = g60.m x := by
  intro x
  obtain ⟨x0, x1, xu⟩ := x
  show _ = _
  kernel_rfl
theorem meets60 : Meets Try.prog 60 g60 :=
  meets_of (C := c60 FUEL) (ann := an60) (mkC_ok (gs := [(71, g71)]) (is := []) (mt := mtL) tysOK elemOK ⟨meets71, trivial⟩ trivial mtOK FUEL) mixed Try.func60 (by kernel_rfl) (by kernel_rfl) (by kernel_rfl) (of_decide_eq_true (by kernel_rfl)) (fun p => p.1.1) (fun _ _ => ⟨rfl, rfl⟩) ev60
def c66 (N : Nat) : Cx := mkC tyL [(53, g53), (60, g60)] [] mtL N
def g66 : Sig := ⟨(.cons (.pure (.arr 128 (.int .u64))) .nl), (.cons (.own (.pair .str (.pair .str .nl))) (.cons (.pure (.int .i64)) .nl)), ((List (ByteArray × (ByteArray × Unit))) × Int), fun x => m_search_sorted x.1, fun _ y => (y.1, (y.2, ())), fun _ y => ((), ())⟩
def an66 : Nat → Ann := mkA [(5, ⟨[4, 6], [], [200288], false⟩)]
noncomputable def k66 (N : Nat) : Ex → St → Option ((List (ByteArray × (ByteArray × Unit))) × Int) := finK (c66 N) Try.f66 g66 (.cons .top .nl) (fun p => (p.1.1, p.1.2.1))
def a66 : Nat → Ann := annP [] an66
def h66_0 (u0_0 : Int) (u0_1 : (List (ByteArray × (ByteArray × Unit)))) : St := ⟨35, [(4, (.full 200288)), (6, (.int .i64 u0_0))], [(200288, (.bk (.pair .str (.pair .str .nl)) u0_1))]⟩
theorem t66_0 : ∀ (N : Nat) (n : Nat) (u0_0 : Int) (u0_1 : (List (ByteArray × (ByteArray × Unit)))), loopAt (c66 N) a66 [1, 1, 1, 0, 1, 0] [] (codeOf Try.f66) (k66 N) n (h66_0 u0_0 u0_1) = m_search_sorted_l0 N n u0_0 u0_1 := by
  intro N n
  induction n with
  | zero => intro u0_0 u0_1; kernel_rfl
  | succ n ih =>
    intro u0_0 u0_1
    have e : loopAt (c66 N) a66 [1, 1, 1, 0, 1, 0] [] (codeOf Try.f66) (k66 N) (n + 1) (h66_0 u0_0 u0_1) = m_search_sorted_l0_b (fun w0 w1 => loopAt (c66 N) a66 [1, 1, 1, 0, 1, 0] [] (codeOf Try.f66) (k66 N) n (h66_0 w0 w1)) u0_0 u0_1 := by kernel_rfl
    refine e.trans ?_
    have es : (fun w0 w1 => loopAt (c66 N) a66 [1, 1, 1, 0, 1, 0] [] (codeOf Try.f66) (k66 N) n (h66_0 w0 w1)) = m_search_sorted_l0 N n := by
      funext w0 w1; exact ih w0 w1
    rw [es]
    rw [m_search_sorted_l0]
theorem ew66 : ∀ (N : Nat) (x : g66.ps.den), evalFn (c66 N) an66 Try.f66 (codeOf Try.f66) g66 x (fun p => (p.1.1, p.1.2.1)) = m_search_sorted_a (m_search_sorted_l0 N N) x.1 := by
  intro N
  intro x
  obtain ⟨x0, xu⟩ := x
  have e : evalFn (c66 N) an66 Try.f66 (codeOf Try.f66) g66 (x0, xu) (fun p => (p.1.1, p.1.2.1)) = m_search_sorted_a (fun w0 w1 => loopAt (c66 N) a66 [1, 1, 1, 0, 1, 0] [] (codeOf Try.f66) (k66 N) N (h66_0 w0 w1)) x0 := by kernel_rfl
  refine e.trans ?_
  have e0 : (fun w0 w1 => loopAt (c66 N) a66 [1, 1, 1, 0, 1, 0] [] (codeOf Try.f66) (k66 N) N (h66_0 w0 w1)) = m_search_sorted_l0 N N := by
    funext w0 w1; exact t66_0 N N w0 w1
  rw [e0]
theorem ev66 : ∀ x : g66.ps.den, evalFn (c66 FUEL) an66 Try.f66 (codeOf Try.f66) g66 x (fun p => (p.1.1, p.1.2.1)) = g66.m x := fun x => ew66 FUEL x
theorem meets66 : Meets Try.prog 66 g66 :=
  meets_of (C := c66 FUEL) (ann := an66) (mkC_ok (gs := [(53, g53), (60, g60)]) (is := []) (mt := mtL) tysOK elemOK ⟨meets53, meets60, trivial⟩ trivial mtOK FUEL) mixed Try.func66 (by kernel_rfl) (by kernel_rfl) (by kernel_rfl) (of_decide_eq_true (by kernel_rfl)) (fun p => (p.1.1, p.1.2.1)) (fun _ _ => ⟨rfl, rfl⟩) ev66
def c54 (N : Nat) : Cx := mkC tyL [(66, g66)] [] mtL N
def g54 : Sig := ⟨(.cons (.pure (.arr 128 (.int .u64))) .nl), (.cons (.pure .bool) .nl), Bool, fun x => m_search_Sorted x.1, fun _ y => (y, ()), fun _ y => ((), ())⟩
def an54 : Nat → Ann := mkA []
theorem ev54 : ∀ x : g54.ps.den, evalFn (c54 FUEL) an54 Try.f54 (codeOf Try.f54) g54 x (fun p => p.1.1) = g54.m x := by
  intro x
  obtain ⟨x0, xu⟩ := x
  show _ = _
  kernel_rfl
theorem meets54 : Meets Try.prog 54 g54 :=
  meets_of (C := c54 FUEL) (ann := an54) (mkC_ok (gs := [(66, g66)]) (is := []) (mt := mtL) tysOK elemOK ⟨meets66, trivial⟩ trivial mtOK FUEL) mixed Try.func54 (by kernel_rfl) (by kernel_rfl) (by kernel_rfl) (of_decide_eq_true (by kernel_rfl)) (fun p => p.1.1) (fun _ _ => ⟨rfl, rfl⟩) ev54
def c40 (N : Nat) : Cx := mkC tyL [(53, g53), (54, g54)] [] mtL N
def g40 : Sig := ⟨(.cons (.pure (.arr 128 (.int .u64))) .nl), (.cons (.own (.pair .str (.pair .str .nl))) (.cons (.pure (.int .i64)) .nl)), ((List (ByteArray × (ByteArray × Unit))) × Int), fun x => m_split_sorted x.1, fun _ y => (y.1, (y.2, ())), fun _ y => ((), ())⟩
def an40 : Nat → Ann := mkA []
theorem ev40 : ∀ x : g40.ps.den, evalFn (c40 FUEL) an40 Try.f40 (codeOf Try.f40) g40 x (fun p => (p.1.1, p.1.2.1)) = g40.m x := by
  intro x
  obtain ⟨x0, xu⟩ := x
  show _ = _
  kernel_rfl
theorem meets40 : Meets Try.prog 40 g40 :=
  meets_of (C := c40 FUEL) (ann := an40) (mkC_ok (gs := [(53, g53), (54, g54)]) (is := []) (mt := mtL) tysOK elemOK ⟨meets53, meets54, trivial⟩ trivial mtOK FUEL) mixed Try.func40 (by kernel_rfl) (by kernel_rfl) (by kernel_rfl) (of_decide_eq_true (by kernel_rfl)) (fun p => (p.1.1, p.1.2.1)) (fun _ _ => ⟨rfl, rfl⟩) ev40
def c55 (N : Nat) : Cx := mkC tyL [(62, g62)] [] mtL N
def g55 : Sig := ⟨(.cons (.pure .str) (.cons (.pure .str) .nl)), (.cons (.pure (.int .i64)) .nl), Int, fun x => m_slot_Cost x.1 x.2.1, fun _ y => (y, ()), fun _ y => ((), ((), ()))⟩
def an55 : Nat → Ann := mkA []
theorem ev55 : ∀ x : g55.ps.den, evalFn (c55 FUEL) an55 Try.f55 (codeOf Try.f55) g55 x (fun p => p.1.1) = g55.m x := by
  intro x
  obtain ⟨x0, x1, xu⟩ := x
  show _ = _
  kernel_rfl
theorem meets55 : Meets Try.prog 55 g55 :=
  meets_of (C := c55 FUEL) (ann := an55) (mkC_ok (gs := [(62, g62)]) (is := []) (mt := mtL) tysOK elemOK ⟨meets62, trivial⟩ trivial mtOK FUEL) mixed Try.func55 (by kernel_rfl) (by kernel_rfl) (by kernel_rfl) (of_decide_eq_true (by kernel_rfl)) (fun p => p.1.1) (fun _ _ => ⟨rfl, rfl⟩) ev55
def c41 (N : Nat) : Cx := mkC tyL [(55, g55)] [] mtL N
def g41 : Sig := ⟨(.cons (.pure (.sl (.pair .str (.pair .str .nl)))) .nl), (.cons (.pure (.int .i64)) .nl), Int, fun x => m_split_place x.1, fun _ y => (y, ()), fun _ y => ((), ())⟩
def an41 : Nat → Ann := mkA [(3, ⟨[0, 3, 15, 16, 17], [], [14], false⟩), (10, ⟨[0, 3, 6, 7, 8, 9], [], [14], false⟩)]
noncomputable def k41 (N : Nat) : Ex → St → Option Int := finK (c41 N) Try.f41 g41 (.cons .top .nl) (fun p => p.1.1)
def a41 : Nat → Ann := annP [] an41
def h41_1 (u1_0 : (List (ByteArray × (ByteArray × Unit)))) (u1_1 : Int) (u1_2 : Int) (u1_3 : Int) (u1_4 : Int) (u1_5 : (List Int)) : St := ⟨67, [(0, (.lst (.pair .str (.pair .str .nl)) u1_0)), (3, (.full 14)), (6, (.int .i64 u1_1)), (7, (.int .i64 u1_2)), (8, (.int .i64 u1_3)), (9, (.int .i64 u1_4))], [(14, (.bk (.int .i64) u1_5))]⟩
def h41_0 (u0_0 : (List (ByteArray × (ByteArray × Unit)))) (u0_1 : (List (ByteArray × (ByteArray × Unit)))) (u0_2 : Int) (u0_3 : Int) (u0_4 : (List Int)) : St := ⟨67, [(0, (.lst (.pair .str (.pair .str .nl)) u0_0)), (3, (.full 14)), (15, (.lst (.pair .str (.pair .str .nl)) u0_1)), (16, (.int .i64 u0_2)), (17, (.int .i64 u0_3))], [(14, (.bk (.int .i64) u0_4))]⟩
theorem t41_1 : ∀ (N : Nat) (n : Nat) (u1_0 : (List (ByteArray × (ByteArray × Unit)))) (u1_1 : Int) (u1_2 : Int) (u1_3 : Int) (u1_4 : Int) (u1_5 : (List Int)), loopAt (c41 N) a41 [1, 1, 1, 1, 1, 0, 1, 0] [] (codeOf Try.f41) (k41 N) n (h41_1 u1_0 u1_1 u1_2 u1_3 u1_4 u1_5) = m_split_place_l1 N n u1_0 u1_1 u1_2 u1_3 u1_4 u1_5 := by
  intro N n
  induction n with
  | zero => intro u1_0 u1_1 u1_2 u1_3 u1_4 u1_5; kernel_rfl
  | succ n ih =>
    intro u1_0 u1_1 u1_2 u1_3 u1_4 u1_5
    have e : loopAt (c41 N) a41 [1, 1, 1, 1, 1, 0, 1, 0] [] (codeOf Try.f41) (k41 N) (n + 1) (h41_1 u1_0 u1_1 u1_2 u1_3 u1_4 u1_5) = m_split_place_l1_b (fun w0 w1 w2 w3 w4 w5 => loopAt (c41 N) a41 [1, 1, 1, 1, 1, 0, 1, 0] [] (codeOf Try.f41) (k41 N) n (h41_1 w0 w1 w2 w3 w4 w5)) u1_0 u1_1 u1_2 u1_3 u1_4 u1_5 := by kernel_rfl
    refine e.trans ?_
    have es : (fun w0 w1 w2 w3 w4 w5 => loopAt (c41 N) a41 [1, 1, 1, 1, 1, 0, 1, 0] [] (codeOf Try.f41) (k41 N) n (h41_1 w0 w1 w2 w3 w4 w5)) = m_split_place_l1 N n := by
      funext w0 w1 w2 w3 w4 w5; exact ih w0 w1 w2 w3 w4 w5
    rw [es]
    rw [m_split_place_l1]
theorem t41_0 : ∀ (N : Nat) (n : Nat) (u0_0 : (List (ByteArray × (ByteArray × Unit)))) (u0_1 : (List (ByteArray × (ByteArray × Unit)))) (u0_2 : Int) (u0_3 : Int) (u0_4 : (List Int)), loopAt (c41 N) a41 [1, 1, 0, 1, 0] [] (codeOf Try.f41) (k41 N) n (h41_0 u0_0 u0_1 u0_2 u0_3 u0_4) = m_split_place_l0 N n u0_0 u0_1 u0_2 u0_3 u0_4 := by
  intro N n
  induction n with
  | zero => intro u0_0 u0_1 u0_2 u0_3 u0_4; kernel_rfl
  | succ n ih =>
    intro u0_0 u0_1 u0_2 u0_3 u0_4
    have e : loopAt (c41 N) a41 [1, 1, 0, 1, 0] [] (codeOf Try.f41) (k41 N) (n + 1) (h41_0 u0_0 u0_1 u0_2 u0_3 u0_4) = m_split_place_l0_b (fun w0 w1 w2 w3 w4 => loopAt (c41 N) a41 [1, 1, 0, 1, 0] [] (codeOf Try.f41) (k41 N) n (h41_0 w0 w1 w2 w3 w4)) (fun w0 w1 w2 w3 w4 w5 => loopAt (c41 N) a41 [1, 1, 1, 1, 1, 0, 1, 0] [] (codeOf Try.f41) (k41 N) N (h41_1 w0 w1 w2 w3 w4 w5)) u0_0 u0_1 u0_2 u0_3 u0_4 := by kernel_rfl
    refine e.trans ?_
    have e1 : (fun w0 w1 w2 w3 w4 w5 => loopAt (c41 N) a41 [1, 1, 1, 1, 1, 0, 1, 0] [] (codeOf Try.f41) (k41 N) N (h41_1 w0 w1 w2 w3 w4 w5)) = m_split_place_l1 N N := by
      funext w0 w1 w2 w3 w4 w5; exact t41_1 N N w0 w1 w2 w3 w4 w5
    rw [e1]
    have es : (fun w0 w1 w2 w3 w4 => loopAt (c41 N) a41 [1, 1, 0, 1, 0] [] (codeOf Try.f41) (k41 N) n (h41_0 w0 w1 w2 w3 w4)) = m_split_place_l0 N n := by
      funext w0 w1 w2 w3 w4; exact ih w0 w1 w2 w3 w4
    rw [es]
    rw [m_split_place_l0]
theorem ew41 : ∀ (N : Nat) (x : g41.ps.den), evalFn (c41 N) an41 Try.f41 (codeOf Try.f41) g41 x (fun p => p.1.1) = m_split_place_a (m_split_place_l0 N N) x.1 := by
  intro N
  intro x
  obtain ⟨x0, xu⟩ := x
  have e : evalFn (c41 N) an41 Try.f41 (codeOf Try.f41) g41 (x0, xu) (fun p => p.1.1) = m_split_place_a (fun w0 w1 w2 w3 w4 => loopAt (c41 N) a41 [1, 1, 0, 1, 0] [] (codeOf Try.f41) (k41 N) N (h41_0 w0 w1 w2 w3 w4)) x0 := by kernel_rfl
  refine e.trans ?_
  have e0 : (fun w0 w1 w2 w3 w4 => loopAt (c41 N) a41 [1, 1, 0, 1, 0] [] (codeOf Try.f41) (k41 N) N (h41_0 w0 w1 w2 w3 w4)) = m_split_place_l0 N N := by
    funext w0 w1 w2 w3 w4; exact t41_0 N N w0 w1 w2 w3 w4
  rw [e0]
theorem ev41 : ∀ x : g41.ps.den, evalFn (c41 FUEL) an41 Try.f41 (codeOf Try.f41) g41 x (fun p => p.1.1) = g41.m x := fun x => ew41 FUEL x
theorem meets41 : Meets Try.prog 41 g41 :=
  meets_of (C := c41 FUEL) (ann := an41) (mkC_ok (gs := [(55, g55)]) (is := []) (mt := mtL) tysOK elemOK ⟨meets55, trivial⟩ trivial mtOK FUEL) mixed Try.func41 (by kernel_rfl) (by kernel_rfl) (by kernel_rfl) (of_decide_eq_true (by kernel_rfl)) (fun p => p.1.1) (fun _ _ => ⟨rfl, rfl⟩) ev41
def c32 (N : Nat) : Cx := mkC tyL [(40, g40), (41, g41)] [] mtL N
def g32 : Sig := ⟨(.cons (.pure (.arr 128 (.int .u64))) .nl), (.cons (.pure (.int .i64)) (.cons (.pure (.int .i64)) .nl)), (Int × Int), fun x => m_split_At x.1, fun _ y => (y.1, (y.2, ())), fun _ y => ((), ())⟩
def an32 : Nat → Ann := mkA []
theorem ev32 : ∀ x : g32.ps.den, evalFn (c32 FUEL) an32 Try.f32 (codeOf Try.f32) g32 x (fun p => (p.1.1, p.1.2.1)) = g32.m x := by
  intro x
  obtain ⟨x0, xu⟩ := x
  show _ = _
  kernel_rfl
theorem meets32 : Meets Try.prog 32 g32 :=
  meets_of (C := c32 FUEL) (ann := an32) (mkC_ok (gs := [(40, g40), (41, g41)]) (is := []) (mt := mtL) tysOK elemOK ⟨meets40, meets41, trivial⟩ trivial mtOK FUEL) mixed Try.func32 (by kernel_rfl) (by kernel_rfl) (by kernel_rfl) (of_decide_eq_true (by kernel_rfl)) (fun p => (p.1.1, p.1.2.1)) (fun _ _ => ⟨rfl, rfl⟩) ev32
def c11 (N : Nat) : Cx := mkC tyL [(32, g32)] [] mtL N
def g11 : Sig := ⟨(.cons (.pure (.arr 128 (.int .u64))) (.cons (.pure (.int .i64)) (.cons (.pure (.int .i64)) .nl))), (.cons (.pure .bool) .nl), Bool, fun x => m_ticketlinelaw17_places x.1 x.2.1 x.2.2.1, fun _ y => (y, ()), fun _ y => ((), ((), ((), ())))⟩
def an11 : Nat → Ann := mkA []
theorem ev11 : ∀ x : g11.ps.den, evalFn (c11 FUEL) an11 Try.f11 (codeOf Try.f11) g11 x (fun p => p.1.1) = g11.m x := by
  intro x
  obtain ⟨x0, x1, x2, xu⟩ := x
  show _ = _
  kernel_rfl
theorem meets11 : Meets Try.prog 11 g11 :=
  meets_of (C := c11 FUEL) (ann := an11) (mkC_ok (gs := [(32, g32)]) (is := []) (mt := mtL) tysOK elemOK ⟨meets32, trivial⟩ trivial mtOK FUEL) mixed Try.func11 (by kernel_rfl) (by kernel_rfl) (by kernel_rfl) (of_decide_eq_true (by kernel_rfl)) (fun p => p.1.1) (fun _ _ => ⟨rfl, rfl⟩) ev11
def c56 (N : Nat) : Cx := mkC tyL [(52, g52)] [] mtL N
def g56 : Sig := ⟨(.cons (.pure (.arr 128 (.int .u64))) .nl), (.cons (.pure .bool) .nl), Bool, fun x => m_slot_Valid x.1, fun _ y => (y, ()), fun _ y => ((), ())⟩
def an56 : Nat → Ann := mkA []
theorem ev56 : ∀ x : g56.ps.den, evalFn (c56 FUEL) an56 Try.f56 (codeOf Try.f56) g56 x (fun p => p.1.1) = g56.m x := by
  intro x
  obtain ⟨x0, xu⟩ := x
  show _ = _
  kernel_rfl
theorem meets56 : Meets Try.prog 56 g56 :=
  meets_of (C := c56 FUEL) (ann := an56) (mkC_ok (gs := [(52, g52)]) (is := []) (mt := mtL) tysOK elemOK ⟨meets52, trivial⟩ trivial mtOK FUEL) mixed Try.func56 (by kernel_rfl) (by kernel_rfl) (by kernel_rfl) (of_decide_eq_true (by kernel_rfl)) (fun p => p.1.1) (fun _ _ => ⟨rfl, rfl⟩) ev56
def c42 (N : Nat) : Cx := mkC tyL [(56, g56), (57, g57)] [] mtL N
def g42 : Sig := ⟨(.cons (.pure (.arr 128 (.int .u64))) .nl), (.cons (.pure .str) (.cons (.pure .str) (.cons (.pure (.int .i64)) .nl))), (ByteArray × ByteArray × Int), fun x => m_slot_Fences x.1, fun _ y => (y.1, (y.2.1, (y.2.2, ()))), fun _ y => ((), ())⟩
def an42 : Nat → Ann := mkA []
theorem ev42 : ∀ x : g42.ps.den, evalFn (c42 FUEL) an42 Try.f42 (codeOf Try.f42) g42 x (fun p => (p.1.1, p.1.2.1, p.1.2.2.1)) = g42.m x := by
  intro x
  obtain ⟨x0, xu⟩ := x
  show _ = _
  kernel_rfl
theorem meets42 : Meets Try.prog 42 g42 :=
  meets_of (C := c42 FUEL) (ann := an42) (mkC_ok (gs := [(56, g56), (57, g57)]) (is := []) (mt := mtL) tysOK elemOK ⟨meets56, meets57, trivial⟩ trivial mtOK FUEL) mixed Try.func42 (by kernel_rfl) (by kernel_rfl) (by kernel_rfl) (of_decide_eq_true (by kernel_rfl)) (fun p => (p.1.1, p.1.2.1, p.1.2.2.1)) (fun _ _ => ⟨rfl, rfl⟩) ev42
def c70 (N : Nat) : Cx := mkC tyL [] [] mtL N
def g70 : Sig := ⟨(.cons (.pure .str) .nl), (.cons (.pure .bool) .nl), Bool, fun x => m_keys_ValidValue x.1, fun _ y => (y, ()), fun _ y => ((), ())⟩
def an70 : Nat → Ann := mkA []
theorem ev70 : ∀ x : g70.ps.den, evalFn (c70 FUEL) an70 Try.f70 (codeOf Try.f70) g70 x (fun p => p.1.1) = g70.m x := by
  intro x
  obtain ⟨x0, xu⟩ := x
  show _ = _
  kernel_rfl
theorem meets70 : Meets Try.prog 70 g70 :=
  meets_of (C := c70 FUEL) (ann := an70) (mkC_ok (gs := []) (is := []) (mt := mtL) tysOK elemOK trivial trivial mtOK FUEL) mixed Try.func70 (by kernel_rfl) (by kernel_rfl) (by kernel_rfl) (of_decide_eq_true (by kernel_rfl)) (fun p => p.1.1) (fun _ _ => ⟨rfl, rfl⟩) ev70
def c73 (N : Nat) : Cx := mkC tyL [(62, g62), (70, g70)] [] mtL N
def g73 : Sig := ⟨(.cons (.pure .str) .nl), (.cons (.own (.int .u64)) (.cons (.pure (.int .i64)) .nl)), ((List Int) × Int), fun x => m_keys_Pack x.1, fun _ y => (y.1, (y.2, ())), fun _ y => ((), ())⟩
def an73 : Nat → Ann := mkA [(5, ⟨[0, 14, 15], [(4, (.int .u64))], [], false⟩), (9, ⟨[0, 4, 5, 6, 14, 15, 18], [], [300004], false⟩)]
noncomputable def k73 (N : Nat) : Ex → St → Option ((List Int) × Int) := finK (c73 N) Try.f73 g73 (.cons .top .nl) (fun p => (p.1.1, p.1.2.1))
def a73 : Nat → Ann := annP [] an73
def h73_1 (u1_0 : ByteArray) (u1_1 : Int) (u1_2 : Int) (u1_3 : Int) (u1_4 : Int) (u1_5 : Int) (u1_6 : (List Int)) : St := ⟨44, [(0, (.str u1_0)), (4, (.full 300004)), (5, (.int .i64 u1_1)), (6, (.int .u64 u1_2)), (14, (.int .i64 u1_3)), (15, (.int .i64 u1_4)), (18, (.int .i64 u1_5))], [(300004, (.bk (.int .u64) u1_6))]⟩
def h73_0 (u0_0 : ByteArray) (u0_1 : Int) (u0_2 : Int) (u0_3 : (List Int)) : St := ⟨44, [(4, .full 300004), (0, (.str u0_0)), (14, (.int .i64 u0_1)), (15, (.int .i64 u0_2))], [(300004, (.bk (.int .u64) u0_3))]⟩
theorem t73_1 : ∀ (N : Nat) (m0 : Nat) (n : Nat) (u1_0 : ByteArray) (u1_1 : Int) (u1_2 : Int) (u1_3 : Int) (u1_4 : Int) (u1_5 : Int) (u1_6 : (List Int)), loopAt (c73 N) a73 [1, 1, 1, 0, 1, 0, 0, 1, 1, 0, 0, 1, 1, 0, 1, 0] [m0] (codeOf Try.f73) (k73 N) n (h73_1 u1_0 u1_1 u1_2 u1_3 u1_4 u1_5 u1_6) = m_keys_Pack_l1 N (fun w0 w1 w2 w3 => loopAt (c73 N) a73 [1, 1, 1, 0, 1, 0] [] (codeOf Try.f73) (k73 N) m0 (h73_0 w0 w1 w2 w3)) n u1_0 u1_1 u1_2 u1_3 u1_4 u1_5 u1_6 := by
  intro N m0 n
  induction n with
  | zero => intro u1_0 u1_1 u1_2 u1_3 u1_4 u1_5 u1_6; kernel_rfl
  | succ n ih =>
    intro u1_0 u1_1 u1_2 u1_3 u1_4 u1_5 u1_6
    have e : loopAt (c73 N) a73 [1, 1, 1, 0, 1, 0, 0, 1, 1, 0, 0, 1, 1, 0, 1, 0] [m0] (codeOf Try.f73) (k73 N) (n + 1) (h73_1 u1_0 u1_1 u1_2 u1_3 u1_4 u1_5 u1_6) = m_keys_Pack_l1_b (fun w0 w1 w2 w3 => loopAt (c73 N) a73 [1, 1, 1, 0, 1, 0] [] (codeOf Try.f73) (k73 N) m0 (h73_0 w0 w1 w2 w3)) (fun w0 w1 w2 w3 w4 w5 w6 => loopAt (c73 N) a73 [1, 1, 1, 0, 1, 0, 0, 1, 1, 0, 0, 1, 1, 0, 1, 0] [m0] (codeOf Try.f73) (k73 N) n (h73_1 w0 w1 w2 w3 w4 w5 w6)) u1_0 u1_1 u1_2 u1_3 u1_4 u1_5 u1_6 := by kernel_rfl
    refine e.trans ?_
    have es : (fun w0 w1 w2 w3 w4 w5 w6 => loopAt (c73 N) a73 [1, 1, 1, 0, 1, 0, 0, 1, 1, 0, 0, 1, 1, 0, 1, 0] [m0] (codeOf Try.f73) (k73 N) n (h73_1 w0 w1 w2 w3 w4 w5 w6)) = m_keys_Pack_l1 N (fun w0 w1 w2 w3 => loopAt (c73 N) a73 [1, 1, 1, 0, 1, 0] [] (codeOf Try.f73) (k73 N) m0 (h73_0 w0 w1 w2 w3)) n := by
      funext w0 w1 w2 w3 w4 w5 w6; exact ih w0 w1 w2 w3 w4 w5 w6
    rw [es]
    rw [m_keys_Pack_l1]
theorem t73_0 : ∀ (N : Nat) (n : Nat) (u0_0 : ByteArray) (u0_1 : Int) (u0_2 : Int) (u0_3 : (List Int)), loopAt (c73 N) a73 [1, 1, 1, 0, 1, 0] [] (codeOf Try.f73) (k73 N) n (h73_0 u0_0 u0_1 u0_2 u0_3) = m_keys_Pack_l0 N n u0_0 u0_1 u0_2 u0_3 := by
  intro N n
  induction n with
  | zero => intro u0_0 u0_1 u0_2 u0_3; kernel_rfl
  | succ n ih =>
    intro u0_0 u0_1 u0_2 u0_3
    have e : loopAt (c73 N) a73 [1, 1, 1, 0, 1, 0] [] (codeOf Try.f73) (k73 N) (n + 1) (h73_0 u0_0 u0_1 u0_2 u0_3) = m_keys_Pack_l0_b (fun w0 w1 w2 w3 => loopAt (c73 N) a73 [1, 1, 1, 0, 1, 0] [] (codeOf Try.f73) (k73 N) n (h73_0 w0 w1 w2 w3)) (fun w0 w1 w2 w3 w4 w5 w6 => loopAt (c73 N) a73 [1, 1, 1, 0, 1, 0, 0, 1, 1, 0, 0, 1, 1, 0, 1, 0] [n] (codeOf Try.f73) (k73 N) N (h73_1 w0 w1 w2 w3 w4 w5 w6)) u0_0 u0_1 u0_2 u0_3 := by kernel_rfl
    refine e.trans ?_
    have e1 : (fun w0 w1 w2 w3 w4 w5 w6 => loopAt (c73 N) a73 [1, 1, 1, 0, 1, 0, 0, 1, 1, 0, 0, 1, 1, 0, 1, 0] [n] (codeOf Try.f73) (k73 N) N (h73_1 w0 w1 w2 w3 w4 w5 w6)) = m_keys_Pack_l1 N (fun w0 w1 w2 w3 => loopAt (c73 N) a73 [1, 1, 1, 0, 1, 0] [] (codeOf Try.f73) (k73 N) n (h73_0 w0 w1 w2 w3)) N := by
      funext w0 w1 w2 w3 w4 w5 w6; exact t73_1 N n N w0 w1 w2 w3 w4 w5 w6
    rw [e1]
    have es : (fun w0 w1 w2 w3 => loopAt (c73 N) a73 [1, 1, 1, 0, 1, 0] [] (codeOf Try.f73) (k73 N) n (h73_0 w0 w1 w2 w3)) = m_keys_Pack_l0 N n := by
      funext w0 w1 w2 w3; exact ih w0 w1 w2 w3
    rw [es]
    rw [m_keys_Pack_l0]
theorem ew73 : ∀ (N : Nat) (x : g73.ps.den), evalFn (c73 N) an73 Try.f73 (codeOf Try.f73) g73 x (fun p => (p.1.1, p.1.2.1)) = m_keys_Pack_a (m_keys_Pack_l0 N N) x.1 := by
  intro N
  intro x
  obtain ⟨x0, xu⟩ := x
  have e : evalFn (c73 N) an73 Try.f73 (codeOf Try.f73) g73 (x0, xu) (fun p => (p.1.1, p.1.2.1)) = m_keys_Pack_a (fun w0 w1 w2 w3 => loopAt (c73 N) a73 [1, 1, 1, 0, 1, 0] [] (codeOf Try.f73) (k73 N) N (h73_0 w0 w1 w2 w3)) x0 := by kernel_rfl
  refine e.trans ?_
  have e0 : (fun w0 w1 w2 w3 => loopAt (c73 N) a73 [1, 1, 1, 0, 1, 0] [] (codeOf Try.f73) (k73 N) N (h73_0 w0 w1 w2 w3)) = m_keys_Pack_l0 N N := by
    funext w0 w1 w2 w3; exact t73_0 N N w0 w1 w2 w3
  rw [e0]
theorem ev73 : ∀ x : g73.ps.den, evalFn (c73 FUEL) an73 Try.f73 (codeOf Try.f73) g73 x (fun p => (p.1.1, p.1.2.1)) = g73.m x := fun x => ew73 FUEL x
theorem meets73 : Meets Try.prog 73 g73 :=
  meets_of (C := c73 FUEL) (ann := an73) (mkC_ok (gs := [(62, g62), (70, g70)]) (is := []) (mt := mtL) tysOK elemOK ⟨meets62, meets70, trivial⟩ trivial mtOK FUEL) mixed Try.func73 (by kernel_rfl) (by kernel_rfl) (by kernel_rfl) (of_decide_eq_true (by kernel_rfl)) (fun p => (p.1.1, p.1.2.1)) (fun _ _ => ⟨rfl, rfl⟩) ev73
def c68 (N : Nat) : Cx := mkC tyL [(73, g73)] [] mtL N
def g68 : Sig := ⟨(.cons (.ptr (.pure (.arr 128 (.int .u64)))) (.cons (.pure (.int .i64)) (.cons (.pure .str) .nl))), (.cons (.pure (.int .i64)) .nl), (Int × (List Int)), fun x => m_slot_setFence x.1 x.2.1 x.2.2.1, fun _ y => (y.1, ()), fun _ y => (y.2, ((), ((), ())))⟩
def an68 : Nat → Ann := mkA []
theorem ev68 : ∀ x : g68.ps.den, evalFn (c68 FUEL) an68 Try.f68 (codeOf Try.f68) g68 x (fun p => (p.1.1, p.2.1)) = g68.m x := by
  intro x
  obtain ⟨x0, x1, x2, xu⟩ := x
  show _ = _
  kernel_rfl
theorem meets68 : Meets Try.prog 68 g68 :=
  meets_of (C := c68 FUEL) (ann := an68) (mkC_ok (gs := [(73, g73)]) (is := []) (mt := mtL) tysOK elemOK ⟨meets73, trivial⟩ trivial mtOK FUEL) mixed Try.func68 (by kernel_rfl) (by kernel_rfl) (by kernel_rfl) (of_decide_eq_true (by kernel_rfl)) (fun p => (p.1.1, p.2.1)) (fun _ _ => ⟨rfl, rfl⟩) ev68
def c58 (N : Nat) : Cx := mkC tyL [(60, g60), (68, g68)] [] mtL N
def g58 : Sig := ⟨(.cons (.pure (.int .i64)) (.cons (.pure .str) (.cons (.pure .str) .nl))), (.cons (.pure (.arr 128 (.int .u64))) (.cons (.pure (.int .i64)) .nl)), ((List Int) × Int), fun x => m_slot_Make x.1 x.2.1 x.2.2.1, fun _ y => (y.1, (y.2, ())), fun _ y => ((), ((), ((), ())))⟩
def an58 : Nat → Ann := mkA []
theorem ev58 : ∀ x : g58.ps.den, evalFn (c58 FUEL) an58 Try.f58 (codeOf Try.f58) g58 x (fun p => (p.1.1, p.1.2.1)) = g58.m x := by
  intro x
  obtain ⟨x0, x1, x2, xu⟩ := x
  show _ = _
  kernel_rfl
theorem meets58 : Meets Try.prog 58 g58 :=
  meets_of (C := c58 FUEL) (ann := an58) (mkC_ok (gs := [(60, g60), (68, g68)]) (is := []) (mt := mtL) tysOK elemOK ⟨meets60, meets68, trivial⟩ trivial mtOK FUEL) mixed Try.func58 (by kernel_rfl) (by kernel_rfl) (by kernel_rfl) (of_decide_eq_true (by kernel_rfl)) (fun p => (p.1.1, p.1.2.1)) (fun _ _ => ⟨rfl, rfl⟩) ev58
def c49 (N : Nat) : Cx := mkC tyL [] [] mtL N
def g49 : Sig := ⟨(.cons (.pure (.int .i64)) .nl), (.cons (.pure .str) (.cons (.pure (.int .i64)) .nl)), (ByteArray × Int), fun x => m_page_Number x.1, fun _ y => (y.1, (y.2, ())), fun _ y => ((), ())⟩
def an49 : Nat → Ann := mkA []
theorem ev49 : ∀ x : g49.ps.den, evalFn (c49 FUEL) an49 Try.f49 (codeOf Try.f49) g49 x (fun p => (p.1.1, p.1.2.1)) = g49.m x := by
  intro x
  obtain ⟨x0, xu⟩ := x
  show _ = _
  kernel_rfl
theorem meets49 : Meets Try.prog 49 g49 :=
  meets_of (C := c49 FUEL) (ann := an49) (mkC_ok (gs := []) (is := []) (mt := mtL) tysOK elemOK trivial trivial mtOK FUEL) mixed Try.func49 (by kernel_rfl) (by kernel_rfl) (by kernel_rfl) (of_decide_eq_true (by kernel_rfl)) (fun p => (p.1.1, p.1.2.1)) (fun _ _ => ⟨rfl, rfl⟩) ev49
def c69 (N : Nat) : Cx := mkC tyL [(49, g49)] [] mtL N
def g69 : Sig := ⟨(.cons (.pure .str) .nl), (.cons (.pure .bool) .nl), Bool, fun x => m_page_child x.1, fun _ y => (y, ()), fun _ y => ((), ())⟩
def an69 : Nat → Ann := mkA []
theorem ev69 : ∀ x : g69.ps.den, evalFn (c69 FUEL) an69 Try.f69 (codeOf Try.f69) g69 x (fun p => p.1.1) = g69.m x := by
  intro x
  obtain ⟨x0, xu⟩ := x
  show _ = _
  kernel_rfl
theorem meets69 : Meets Try.prog 69 g69 :=
  meets_of (C := c69 FUEL) (ann := an69) (mkC_ok (gs := [(49, g49)]) (is := []) (mt := mtL) tysOK elemOK ⟨meets49, trivial⟩ trivial mtOK FUEL) mixed Try.func69 (by kernel_rfl) (by kernel_rfl) (by kernel_rfl) (of_decide_eq_true (by kernel_rfl)) (fun p => p.1.1) (fun _ _ => ⟨rfl, rfl⟩) ev69
def c59 (N : Nat) : Cx := mkC tyL [(69, g69), (70, g70)] [] mtL N
def g59 : Sig := ⟨(.cons (.pure .bool) (.cons (.pure (.int .i64)) (.cons (.pure .str) (.cons (.pure .str) .nl)))), (.cons (.pure (.int .i64)) .nl), Int, fun x => m_page_allowed x.1 x.2.1 x.2.2.1 x.2.2.2.1, fun _ y => (y, ()), fun _ y => ((), ((), ((), ((), ()))))⟩
def an59 : Nat → Ann := mkA []
theorem ev59 : ∀ x : g59.ps.den, evalFn (c59 FUEL) an59 Try.f59 (codeOf Try.f59) g59 x (fun p => p.1.1) = g59.m x := by
  intro x
  obtain ⟨x0, x1, x2, x3, xu⟩ := x
  show _ = _
  kernel_rfl
theorem meets59 : Meets Try.prog 59 g59 :=
  meets_of (C := c59 FUEL) (ann := an59) (mkC_ok (gs := [(69, g69), (70, g70)]) (is := []) (mt := mtL) tysOK elemOK ⟨meets69, meets70, trivial⟩ trivial mtOK FUEL) mixed Try.func59 (by kernel_rfl) (by kernel_rfl) (by kernel_rfl) (of_decide_eq_true (by kernel_rfl)) (fun p => p.1.1) (fun _ _ => ⟨rfl, rfl⟩) ev59
def c72 (N : Nat) : Cx := mkC tyL [(73, g73)] [] mtL N
def g72 : Sig := ⟨(.cons (.ptr (.pure (.arr 128 (.int .u64)))) (.cons (.pure .str) (.cons (.pure .str) .nl))), .nl, (List Int), fun x => m_page_record x.1 x.2.1 x.2.2.1, fun _ y => (), fun _ y => (y, ((), ((), ())))⟩
def an72 : Nat → Ann := mkA []
theorem ev72 : ∀ x : g72.ps.den, evalFn (c72 FUEL) an72 Try.f72 (codeOf Try.f72) g72 x (fun p => p.2.1) = g72.m x := by
  intro x
  obtain ⟨x0, x1, x2, xu⟩ := x
  show _ = _
  kernel_rfl
theorem meets72 : Meets Try.prog 72 g72 :=
  meets_of (C := c72 FUEL) (ann := an72) (mkC_ok (gs := [(73, g73)]) (is := []) (mt := mtL) tysOK elemOK ⟨meets73, trivial⟩ trivial mtOK FUEL) mixed Try.func72 (by kernel_rfl) (by kernel_rfl) (by kernel_rfl) (of_decide_eq_true (by kernel_rfl)) (fun p => p.2.1) (fun _ _ => ⟨rfl, rfl⟩) ev72
def c61 (N : Nat) : Cx := mkC tyL [(72, g72)] [] mtL N
def g61 : Sig := ⟨(.cons (.ptr (.pure (.arr 128 (.int .u64)))) (.cons (.pure (.sl (.pair .str (.pair .str .nl)))) .nl)), .nl, (List Int), fun x => m_page_compact x.1 x.2.1, fun _ y => (), fun _ y => (y, ((), ()))⟩
def an61 : Nat → Ann := mkA [(3, ⟨[0, 15, 16, 17], [], [], false⟩)]
noncomputable def k61 (N : Nat) : Ex → St → Option (List Int) := finK (c61 N) Try.f61 g61 (.cons (.ref 100000 []) (.cons .top .nl)) (fun p => p.2.1)
def a61 : Nat → Ann := annP [100000] an61
def h61_0 (u0_0 : (List (ByteArray × (ByteArray × Unit)))) (u0_1 : Int) (u0_2 : Int) (u0_3 : (List Int)) : St := ⟨28, [(0, (.ref 100000 [])), (15, (.lst (.pair .str (.pair .str .nl)) u0_0)), (16, (.int .i64 u0_1)), (17, (.int .i64 u0_2))], [(100000, (.arr (.int .u64) 128 u0_3))]⟩
theorem t61_0 : ∀ (N : Nat) (n : Nat) (u0_0 : (List (ByteArray × (ByteArray × Unit)))) (u0_1 : Int) (u0_2 : Int) (u0_3 : (List Int)), loopAt (c61 N) a61 [1, 1, 1, 0] [] (codeOf Try.f61) (k61 N) n (h61_0 u0_0 u0_1 u0_2 u0_3) = m_page_compact_l0 N n u0_0 u0_1 u0_2 u0_3 := by
  intro N n
  induction n with
  | zero => intro u0_0 u0_1 u0_2 u0_3; kernel_rfl
  | succ n ih =>
    intro u0_0 u0_1 u0_2 u0_3
    have e : loopAt (c61 N) a61 [1, 1, 1, 0] [] (codeOf Try.f61) (k61 N) (n + 1) (h61_0 u0_0 u0_1 u0_2 u0_3) = m_page_compact_l0_b (fun w0 w1 w2 w3 => loopAt (c61 N) a61 [1, 1, 1, 0] [] (codeOf Try.f61) (k61 N) n (h61_0 w0 w1 w2 w3)) u0_0 u0_1 u0_2 u0_3 := by kernel_rfl
    refine e.trans ?_
    have es : (fun w0 w1 w2 w3 => loopAt (c61 N) a61 [1, 1, 1, 0] [] (codeOf Try.f61) (k61 N) n (h61_0 w0 w1 w2 w3)) = m_page_compact_l0 N n := by
      funext w0 w1 w2 w3; exact ih w0 w1 w2 w3
    rw [es]
    rw [m_page_compact_l0]
theorem ew61 : ∀ (N : Nat) (x : g61.ps.den), evalFn (c61 N) an61 Try.f61 (codeOf Try.f61) g61 x (fun p => p.2.1) = m_page_compact_a (m_page_compact_l0 N N) x.1 x.2.1 := by
  intro N
  intro x
  obtain ⟨x0, x1, xu⟩ := x
  have e : evalFn (c61 N) an61 Try.f61 (codeOf Try.f61) g61 (x0, x1, xu) (fun p => p.2.1) = m_page_compact_a (fun w0 w1 w2 w3 => loopAt (c61 N) a61 [1, 1, 1, 0] [] (codeOf Try.f61) (k61 N) N (h61_0 w0 w1 w2 w3)) x0 x1 := by kernel_rfl
  refine e.trans ?_
  have e0 : (fun w0 w1 w2 w3 => loopAt (c61 N) a61 [1, 1, 1, 0] [] (codeOf Try.f61) (k61 N) N (h61_0 w0 w1 w2 w3)) = m_page_compact_l0 N N := by
    funext w0 w1 w2 w3; exact t61_0 N N w0 w1 w2 w3
  rw [e0]
theorem ev61 : ∀ x : g61.ps.den, evalFn (c61 FUEL) an61 Try.f61 (codeOf Try.f61) g61 x (fun p => p.2.1) = g61.m x := fun x => ew61 FUEL x
theorem meets61 : Meets Try.prog 61 g61 :=
  meets_of (C := c61 FUEL) (ann := an61) (mkC_ok (gs := [(72, g72)]) (is := []) (mt := mtL) tysOK elemOK ⟨meets72, trivial⟩ trivial mtOK FUEL) mixed Try.func61 (by kernel_rfl) (by kernel_rfl) (by kernel_rfl) (of_decide_eq_true (by kernel_rfl)) (fun p => p.2.1) (fun _ _ => ⟨rfl, rfl⟩) ev61
def c43 (N : Nat) : Cx := mkC tyL [(55, g55), (58, g58), (59, g59), (60, g60), (61, g61)] [] mtL N
def g43 : Sig := ⟨(.cons (.pure (.int .i64)) (.cons (.pure .str) (.cons (.pure .str) (.cons (.pure (.int .i64)) (.cons (.pure (.sl (.pair .str (.pair .str .nl)))) .nl))))), (.cons (.pure (.arr 128 (.int .u64))) (.cons (.pure (.int .i64)) .nl)), ((List Int) × Int), fun x => m_page_Of x.1 x.2.1 x.2.2.1 x.2.2.2.1 x.2.2.2.2.1, fun _ y => (y.1, (y.2, ())), fun _ y => ((), ((), ((), ((), ((), ())))))⟩
def an43 : Nat → Ann := mkA [(8, ⟨[0, 3, 4, 10, 12, 14, 36, 37, 38], [], [10, 12], false⟩)]
noncomputable def k43 (N : Nat) : Ex → St → Option ((List Int) × Int) := finK (c43 N) Try.f43 g43 (.cons .top (.cons .top (.cons .top (.cons .top (.cons .top .nl))))) (fun p => (p.1.1, p.1.2.1))
def a43 : Nat → Ann := annP [] an43
def h43_0 (u0_0 : Int) (u0_1 : Int) (u0_2 : (List (ByteArray × (ByteArray × Unit)))) (u0_3 : Int) (u0_4 : (List (ByteArray × (ByteArray × Unit)))) (u0_5 : Int) (u0_6 : Int) (u0_7 : (List Int)) (u0_8 : (List Int)) : St := ⟨87, [(0, (.int .i64 u0_0)), (3, (.int .i64 u0_1)), (4, (.lst (.pair .str (.pair .str .nl)) u0_2)), (10, (.ref 10 [])), (12, (.ref 12 [])), (14, (.int .i64 u0_3)), (36, (.lst (.pair .str (.pair .str .nl)) u0_4)), (37, (.int .i64 u0_5)), (38, (.int .i64 u0_6))], [(10, (.arr (.int .u64) 128 u0_7)), (12, (.arr (.int .u64) 128 u0_8))]⟩
theorem t43_0 : ∀ (N : Nat) (n : Nat) (u0_0 : Int) (u0_1 : Int) (u0_2 : (List (ByteArray × (ByteArray × Unit)))) (u0_3 : Int) (u0_4 : (List (ByteArray × (ByteArray × Unit)))) (u0_5 : Int) (u0_6 : Int) (u0_7 : (List Int)) (u0_8 : (List Int)), loopAt (c43 N) a43 [1, 1, 1, 1, 1, 0, 1, 0] [] (codeOf Try.f43) (k43 N) n (h43_0 u0_0 u0_1 u0_2 u0_3 u0_4 u0_5 u0_6 u0_7 u0_8) = m_page_Of_l0 N n u0_0 u0_1 u0_2 u0_3 u0_4 u0_5 u0_6 u0_7 u0_8 := by
  intro N n
  induction n with
  | zero => intro u0_0 u0_1 u0_2 u0_3 u0_4 u0_5 u0_6 u0_7 u0_8; kernel_rfl
  | succ n ih =>
    intro u0_0 u0_1 u0_2 u0_3 u0_4 u0_5 u0_6 u0_7 u0_8
    have e : loopAt (c43 N) a43 [1, 1, 1, 1, 1, 0, 1, 0] [] (codeOf Try.f43) (k43 N) (n + 1) (h43_0 u0_0 u0_1 u0_2 u0_3 u0_4 u0_5 u0_6 u0_7 u0_8) = m_page_Of_l0_b (fun w0 w1 w2 w3 w4 w5 w6 w7 w8 => loopAt (c43 N) a43 [1, 1, 1, 1, 1, 0, 1, 0] [] (codeOf Try.f43) (k43 N) n (h43_0 w0 w1 w2 w3 w4 w5 w6 w7 w8)) u0_0 u0_1 u0_2 u0_3 u0_4 u0_5 u0_6 u0_7 u0_8 := by kernel_rfl
    refine e.trans ?_
    have es : (fun w0 w1 w2 w3 w4 w5 w6 w7 w8 => loopAt (c43 N) a43 [1, 1, 1, 1, 1, 0, 1, 0] [] (codeOf Try.f43) (k43 N) n (h43_0 w0 w1 w2 w3 w4 w5 w6 w7 w8)) = m_page_Of_l0 N n := by
      funext w0 w1 w2 w3 w4 w5 w6 w7 w8; exact ih w0 w1 w2 w3 w4 w5 w6 w7 w8
    rw [es]
    rw [m_page_Of_l0]
theorem ew43 : ∀ (N : Nat) (x : g43.ps.den), evalFn (c43 N) an43 Try.f43 (codeOf Try.f43) g43 x (fun p => (p.1.1, p.1.2.1)) = m_page_Of_a (m_page_Of_l0 N N) x.1 x.2.1 x.2.2.1 x.2.2.2.1 x.2.2.2.2.1 := by
  intro N
  intro x
  obtain ⟨x0, x1, x2, x3, x4, xu⟩ := x
  have e : evalFn (c43 N) an43 Try.f43 (codeOf Try.f43) g43 (x0, x1, x2, x3, x4, xu) (fun p => (p.1.1, p.1.2.1)) = m_page_Of_a (fun w0 w1 w2 w3 w4 w5 w6 w7 w8 => loopAt (c43 N) a43 [1, 1, 1, 1, 1, 0, 1, 0] [] (codeOf Try.f43) (k43 N) N (h43_0 w0 w1 w2 w3 w4 w5 w6 w7 w8)) x0 x1 x2 x3 x4 := by kernel_rfl
  refine e.trans ?_
  have e0 : (fun w0 w1 w2 w3 w4 w5 w6 w7 w8 => loopAt (c43 N) a43 [1, 1, 1, 1, 1, 0, 1, 0] [] (codeOf Try.f43) (k43 N) N (h43_0 w0 w1 w2 w3 w4 w5 w6 w7 w8)) = m_page_Of_l0 N N := by
    funext w0 w1 w2 w3 w4 w5 w6 w7 w8; exact t43_0 N N w0 w1 w2 w3 w4 w5 w6 w7 w8
  rw [e0]
theorem ev43 : ∀ x : g43.ps.den, evalFn (c43 FUEL) an43 Try.f43 (codeOf Try.f43) g43 x (fun p => (p.1.1, p.1.2.1)) = g43.m x := fun x => ew43 FUEL x
theorem meets43 : Meets Try.prog 43 g43 :=
  meets_of (C := c43 FUEL) (ann := an43) (mkC_ok (gs := [(55, g55), (58, g58), (59, g59), (60, g60), (61, g61)]) (is := []) (mt := mtL) tysOK elemOK ⟨meets55, meets58, meets59, meets60, meets61, trivial⟩ trivial mtOK FUEL) mixed Try.func43 (by kernel_rfl) (by kernel_rfl) (by kernel_rfl) (of_decide_eq_true (by kernel_rfl)) (fun p => (p.1.1, p.1.2.1)) (fun _ _ => ⟨rfl, rfl⟩) ev43
def c44 (N : Nat) : Cx := mkC tyL [(56, g56)] [] mtL N
def g44 : Sig := ⟨(.cons (.pure (.arr 128 (.int .u64))) .nl), (.cons (.pure (.int .i64)) .nl), Int, fun x => m_slot_Level x.1, fun _ y => (y, ()), fun _ y => ((), ())⟩
def an44 : Nat → Ann := mkA []
theorem ev44 : ∀ x : g44.ps.den, evalFn (c44 FUEL) an44 Try.f44 (codeOf Try.f44) g44 x (fun p => p.1.1) = g44.m x := by
  intro x
  obtain ⟨x0, xu⟩ := x
  show _ = _
  kernel_rfl
theorem meets44 : Meets Try.prog 44 g44 :=
  meets_of (C := c44 FUEL) (ann := an44) (mkC_ok (gs := [(56, g56)]) (is := []) (mt := mtL) tysOK elemOK ⟨meets56, trivial⟩ trivial mtOK FUEL) mixed Try.func44 (by kernel_rfl) (by kernel_rfl) (by kernel_rfl) (of_decide_eq_true (by kernel_rfl)) (fun p => p.1.1) (fun _ _ => ⟨rfl, rfl⟩) ev44
def c45 (N : Nat) : Cx := mkC tyL [(56, g56)] [] mtL N
def g45 : Sig := ⟨(.cons (.pure (.arr 128 (.int .u64))) .nl), (.cons (.pure (.int .i64)) .nl), Int, fun x => m_slot_Next x.1, fun _ y => (y, ()), fun _ y => ((), ())⟩
def an45 : Nat → Ann := mkA []
theorem ev45 : ∀ x : g45.ps.den, evalFn (c45 FUEL) an45 Try.f45 (codeOf Try.f45) g45 x (fun p => p.1.1) = g45.m x := by
  intro x
  obtain ⟨x0, xu⟩ := x
  show _ = _
  kernel_rfl
theorem meets45 : Meets Try.prog 45 g45 :=
  meets_of (C := c45 FUEL) (ann := an45) (mkC_ok (gs := [(56, g56)]) (is := []) (mt := mtL) tysOK elemOK ⟨meets56, trivial⟩ trivial mtOK FUEL) mixed Try.func45 (by kernel_rfl) (by kernel_rfl) (by kernel_rfl) (of_decide_eq_true (by kernel_rfl)) (fun p => p.1.1) (fun _ _ => ⟨rfl, rfl⟩) ev45
def c20 (N : Nat) : Cx := mkC tyL [(40, g40), (41, g41), (42, g42), (43, g43), (44, g44), (45, g45)] [] mtL N
def g20 : Sig := ⟨(.cons (.pure (.arr 128 (.int .u64))) (.cons (.pure (.int .i64)) .nl)), (.cons (.pure (.arr 128 (.int .u64))) (.cons (.pure (.arr 128 (.int .u64))) (.cons (.pure .str) (.cons (.pure (.int .i64)) .nl)))), ((List Int) × (List Int) × ByteArray × Int), fun x => m_split_Split x.1 x.2.1, fun _ y => (y.1, (y.2.1, (y.2.2.1, (y.2.2.2, ())))), fun _ y => ((), ((), ()))⟩
def an20 : Nat → Ann := mkA []
theorem ev20 : ∀ x : g20.ps.den, evalFn (c20 FUEL) an20 Try.f20 (codeOf Try.f20) g20 x (fun p => (p.1.1, p.1.2.1, p.1.2.2.1, p.1.2.2.2.1)) = g20.m x := by
  intro x
  obtain ⟨x0, x1, xu⟩ := x
  show _ = _
  kernel_rfl
theorem meets20 : Meets Try.prog 20 g20 :=
  meets_of (C := c20 FUEL) (ann := an20) (mkC_ok (gs := [(40, g40), (41, g41), (42, g42), (43, g43), (44, g44), (45, g45)]) (is := []) (mt := mtL) tysOK elemOK ⟨meets40, meets41, meets42, meets43, meets44, meets45, trivial⟩ trivial mtOK FUEL) mixed Try.func20 (by kernel_rfl) (by kernel_rfl) (by kernel_rfl) (of_decide_eq_true (by kernel_rfl)) (fun p => (p.1.1, p.1.2.1, p.1.2.2.1, p.1.2.2.2.1)) (fun _ _ => ⟨rfl, rfl⟩) ev20
def c15 (N : Nat) : Cx := mkC tyL [(20, g20)] [] mtL N
def g15 : Sig := ⟨(.cons (.pure (.arr 128 (.int .u64))) (.cons (.pure (.int .i64)) (.cons (.pure (.arr 128 (.int .u64))) (.cons (.pure (.arr 128 (.int .u64))) (.cons (.pure .str) (.cons (.pure (.int .i64)) .nl)))))), (.cons (.pure .bool) .nl), Bool, fun x => m_ticketlinelaw17_splits x.1 x.2.1 x.2.2.1 x.2.2.2.1 x.2.2.2.2.1 x.2.2.2.2.2.1, fun _ y => (y, ()), fun _ y => ((), ((), ((), ((), ((), ((), ()))))))⟩
def an15 : Nat → Ann := mkA []
theorem ev15 : ∀ x : g15.ps.den, evalFn (c15 FUEL) an15 Try.f15 (codeOf Try.f15) g15 x (fun p => p.1.1) = g15.m x := by
  intro x
  obtain ⟨x0, x1, x2, x3, x4, x5, xu⟩ := x
  show _ = _
  kernel_rfl
theorem meets15 : Meets Try.prog 15 g15 :=
  meets_of (C := c15 FUEL) (ann := an15) (mkC_ok (gs := [(20, g20)]) (is := []) (mt := mtL) tysOK elemOK ⟨meets20, trivial⟩ trivial mtOK FUEL) mixed Try.func15 (by kernel_rfl) (by kernel_rfl) (by kernel_rfl) (of_decide_eq_true (by kernel_rfl)) (fun p => p.1.1) (fun _ _ => ⟨rfl, rfl⟩) ev15
def c28 (N : Nat) : Cx := mkC tyL [(43, g43), (49, g49)] [] mtL N
def g28 : Sig := ⟨(.cons (.pure (.int .i64)) (.cons (.pure (.int .i64)) (.cons (.pure (.int .i64)) (.cons (.pure .str) .nl)))), (.cons (.pure (.arr 128 (.int .u64))) (.cons (.pure (.int .i64)) .nl)), ((List Int) × Int), fun x => m_split_Root x.1 x.2.1 x.2.2.1 x.2.2.2.1, fun _ y => (y.1, (y.2, ())), fun _ y => ((), ((), ((), ((), ()))))⟩
def an28 : Nat → Ann := mkA []
theorem ev28 : ∀ x : g28.ps.den, evalFn (c28 FUEL) an28 Try.f28 (codeOf Try.f28) g28 x (fun p => (p.1.1, p.1.2.1)) = g28.m x := by
  intro x
  obtain ⟨x0, x1, x2, x3, xu⟩ := x
  show _ = _
  kernel_rfl
theorem meets28 : Meets Try.prog 28 g28 :=
  meets_of (C := c28 FUEL) (ann := an28) (mkC_ok (gs := [(43, g43), (49, g49)]) (is := []) (mt := mtL) tysOK elemOK ⟨meets43, meets49, trivial⟩ trivial mtOK FUEL) mixed Try.func28 (by kernel_rfl) (by kernel_rfl) (by kernel_rfl) (of_decide_eq_true (by kernel_rfl)) (fun p => (p.1.1, p.1.2.1)) (fun _ _ => ⟨rfl, rfl⟩) ev28
def c16 (N : Nat) : Cx := mkC tyL [(28, g28)] [] mtL N
def g16 : Sig := ⟨(.cons (.pure (.int .i64)) (.cons (.pure (.int .i64)) (.cons (.pure (.int .i64)) (.cons (.pure .str) (.cons (.pure (.arr 128 (.int .u64))) (.cons (.pure (.int .i64)) .nl)))))), (.cons (.pure .bool) .nl), Bool, fun x => m_ticketlinelaw17_roots x.1 x.2.1 x.2.2.1 x.2.2.2.1 x.2.2.2.2.1 x.2.2.2.2.2.1, fun _ y => (y, ()), fun _ y => ((), ((), ((), ((), ((), ((), ()))))))⟩
def an16 : Nat → Ann := mkA []
theorem ev16 : ∀ x : g16.ps.den, evalFn (c16 FUEL) an16 Try.f16 (codeOf Try.f16) g16 x (fun p => p.1.1) = g16.m x := by
  intro x
  obtain ⟨x0, x1, x2, x3, x4, x5, xu⟩ := x
  show _ = _
  kernel_rfl
theorem meets16 : Meets Try.prog 16 g16 :=
  meets_of (C := c16 FUEL) (ann := an16) (mkC_ok (gs := [(28, g28)]) (is := []) (mt := mtL) tysOK elemOK ⟨meets28, trivial⟩ trivial mtOK FUEL) mixed Try.func16 (by kernel_rfl) (by kernel_rfl) (by kernel_rfl) (of_decide_eq_true (by kernel_rfl)) (fun p => p.1.1) (fun _ _ => ⟨rfl, rfl⟩) ev16
def c23 (N : Nat) : Cx := mkC tyL [(26, g26)] [] mtL N
def g23 : Sig := ⟨(.cons (.pure (.sl (.pair .str (.pair .str .nl)))) .nl), (.cons (.pure (.int .i64)) .nl), Int, fun x => m_ticketlineref14_Sum x.1, fun _ y => (y, ()), fun _ y => ((), ())⟩
def an23 : Nat → Ann := mkA [(3, ⟨[0, 3, 4], [], [], false⟩)]
noncomputable def k23 (N : Nat) : Ex → St → Option Int := finK (c23 N) Try.f23 g23 (.cons .top .nl) (fun p => p.1.1)
def a23 : Nat → Ann := annP [] an23
def h23_0 (u0_0 : (List (ByteArray × (ByteArray × Unit)))) (u0_1 : Int) (u0_2 : Int) : St := ⟨19, [(0, (.lst (.pair .str (.pair .str .nl)) u0_0)), (3, (.int .i64 u0_1)), (4, (.int .i64 u0_2))], []⟩
theorem t23_0 : ∀ (N : Nat) (n : Nat) (u0_0 : (List (ByteArray × (ByteArray × Unit)))) (u0_1 : Int) (u0_2 : Int), loopAt (c23 N) a23 [1, 1, 0, 1, 0] [] (codeOf Try.f23) (k23 N) n (h23_0 u0_0 u0_1 u0_2) = m_ticketlineref14_Sum_l0 N n u0_0 u0_1 u0_2 := by
  intro N n
  induction n with
  | zero => intro u0_0 u0_1 u0_2; kernel_rfl
  | succ n ih =>
    intro u0_0 u0_1 u0_2
    have e : loopAt (c23 N) a23 [1, 1, 0, 1, 0] [] (codeOf Try.f23) (k23 N) (n + 1) (h23_0 u0_0 u0_1 u0_2) = m_ticketlineref14_Sum_l0_b (fun w0 w1 w2 => loopAt (c23 N) a23 [1, 1, 0, 1, 0] [] (codeOf Try.f23) (k23 N) n (h23_0 w0 w1 w2)) u0_0 u0_1 u0_2 := by kernel_rfl
    refine e.trans ?_
    have es : (fun w0 w1 w2 => loopAt (c23 N) a23 [1, 1, 0, 1, 0] [] (codeOf Try.f23) (k23 N) n (h23_0 w0 w1 w2)) = m_ticketlineref14_Sum_l0 N n := by
      funext w0 w1 w2; exact ih w0 w1 w2
    rw [es]
    rw [m_ticketlineref14_Sum_l0]
theorem ew23 : ∀ (N : Nat) (x : g23.ps.den), evalFn (c23 N) an23 Try.f23 (codeOf Try.f23) g23 x (fun p => p.1.1) = m_ticketlineref14_Sum_a (m_ticketlineref14_Sum_l0 N N) x.1 := by
  intro N
  intro x
  obtain ⟨x0, xu⟩ := x
  have e : evalFn (c23 N) an23 Try.f23 (codeOf Try.f23) g23 (x0, xu) (fun p => p.1.1) = m_ticketlineref14_Sum_a (fun w0 w1 w2 => loopAt (c23 N) a23 [1, 1, 0, 1, 0] [] (codeOf Try.f23) (k23 N) N (h23_0 w0 w1 w2)) x0 := by kernel_rfl
  refine e.trans ?_
  have e0 : (fun w0 w1 w2 => loopAt (c23 N) a23 [1, 1, 0, 1, 0] [] (codeOf Try.f23) (k23 N) N (h23_0 w0 w1 w2)) = m_ticketlineref14_Sum_l0 N N := by
    funext w0 w1 w2; exact t23_0 N N w0 w1 w2
  rw [e0]
theorem ev23 : ∀ x : g23.ps.den, evalFn (c23 FUEL) an23 Try.f23 (codeOf Try.f23) g23 x (fun p => p.1.1) = g23.m x := fun x => ew23 FUEL x
theorem meets23 : Meets Try.prog 23 g23 :=
  meets_of (C := c23 FUEL) (ann := an23) (mkC_ok (gs := [(26, g26)]) (is := []) (mt := mtL) tysOK elemOK ⟨meets26, trivial⟩ trivial mtOK FUEL) mixed Try.func23 (by kernel_rfl) (by kernel_rfl) (by kernel_rfl) (of_decide_eq_true (by kernel_rfl)) (fun p => p.1.1) (fun _ _ => ⟨rfl, rfl⟩) ev23
def c38 (N : Nat) : Cx := mkC tyL [] [] mtL N
def g38 : Sig := ⟨(.cons (.pure (.int .i64)) (.cons (.pure .str) (.cons (.pure .str) (.cons (.pure (.int .i64)) .nl)))), (.cons (.pure (.int .i64)) .nl), Int, fun x => m_ticketlineref16_Make x.1 x.2.1 x.2.2.1 x.2.2.2.1, fun _ y => (y, ()), fun _ y => ((), ((), ((), ((), ()))))⟩
def an38 : Nat → Ann := mkA []
theorem ev38 : ∀ x : g38.ps.den, evalFn (c38 FUEL) an38 Try.f38 (codeOf Try.f38) g38 x (fun p => p.1.1) = g38.m x := by
  intro x
  obtain ⟨x0, x1, x2, x3, xu⟩ := x
  show _ = _
  kernel_rfl
theorem meets38 : Meets Try.prog 38 g38 :=
  meets_of (C := c38 FUEL) (ann := an38) (mkC_ok (gs := []) (is := []) (mt := mtL) tysOK elemOK trivial trivial mtOK FUEL) mixed Try.func38 (by kernel_rfl) (by kernel_rfl) (by kernel_rfl) (of_decide_eq_true (by kernel_rfl)) (fun p => p.1.1) (fun _ _ => ⟨rfl, rfl⟩) ev38
def c18 (N : Nat) : Cx := mkC tyL [] [] mtL N
def g18 : Sig := ⟨(.cons (.pure (.int .i64)) .nl), (.cons (.pure .str) .nl), ByteArray, fun x => m_ticketlineref16_Number x.1, fun _ y => (y, ()), fun _ y => ((), ())⟩
def an18 : Nat → Ann := mkA []
theorem ev18 : ∀ x : g18.ps.den, evalFn (c18 FUEL) an18 Try.f18 (codeOf Try.f18) g18 x (fun p => p.1.1) = g18.m x := by
  intro x
  obtain ⟨x0, xu⟩ := x
  show _ = _
  kernel_rfl
theorem meets18 : Meets Try.prog 18 g18 :=
  meets_of (C := c18 FUEL) (ann := an18) (mkC_ok (gs := []) (is := []) (mt := mtL) tysOK elemOK trivial trivial mtOK FUEL) mixed Try.func18 (by kernel_rfl) (by kernel_rfl) (by kernel_rfl) (of_decide_eq_true (by kernel_rfl)) (fun p => p.1.1) (fun _ _ => ⟨rfl, rfl⟩) ev18
def c39 (N : Nat) : Cx := mkC tyL [(18, g18)] [] mtL N
def g39 : Sig := ⟨(.cons (.pure .bool) (.cons (.pure (.int .i64)) (.cons (.pure (.pair .str (.pair .str .nl))) .nl))), (.cons (.pure (.int .i64)) .nl), Int, fun x => m_ticketlineref16_Allowed x.1 x.2.1 x.2.2.1, fun _ y => (y, ()), fun _ y => ((), ((), ((), ())))⟩
def an39 : Nat → Ann := mkA []
theorem ev39 : ∀ x : g39.ps.den, evalFn (c39 FUEL) an39 Try.f39 (codeOf Try.f39) g39 x (fun p => p.1.1) = g39.m x := by
  intro x
  obtain ⟨x0, x1, x2, xu⟩ := x
  show _ = _
  kernel_rfl
theorem meets39 : Meets Try.prog 39 g39 :=
  meets_of (C := c39 FUEL) (ann := an39) (mkC_ok (gs := [(18, g18)]) (is := []) (mt := mtL) tysOK elemOK ⟨meets18, trivial⟩ trivial mtOK FUEL) mixed Try.func39 (by kernel_rfl) (by kernel_rfl) (by kernel_rfl) (of_decide_eq_true (by kernel_rfl)) (fun p => p.1.1) (fun _ _ => ⟨rfl, rfl⟩) ev39
def c17 (N : Nat) : Cx := mkC tyL [(23, g23), (25, g25), (27, g27), (38, g38), (39, g39)] [] mtL N
def g17 : Sig := ⟨(.cons (.pure (.int .i64)) (.cons (.pure .str) (.cons (.pure .str) (.cons (.pure (.int .i64)) (.cons (.pure (.sl (.pair .str (.pair .str .nl)))) .nl))))), (.cons (.pure (.arr 128 (.int .u64))) (.cons (.pure (.int .i64)) .nl)), ((List Int) × Int), fun x => m_ticketlineref16_Of x.1 x.2.1 x.2.2.1 x.2.2.2.1 x.2.2.2.2.1, fun _ y => (y.1, (y.2, ())), fun _ y => ((), ((), ((), ((), ((), ())))))⟩
def an17 : Nat → Ann := mkA [(5, ⟨[0, 1, 2, 3, 4, 10, 13], [], [10], false⟩), (17, ⟨[4, 10, 15, 16], [], [10, 15], false⟩)]
noncomputable def k17 (N : Nat) : Ex → St → Option ((List Int) × Int) := finK (c17 N) Try.f17 g17 (.cons .top (.cons .top (.cons .top (.cons .top (.cons .top .nl))))) (fun p => (p.1.1, p.1.2.1))
def a17 : Nat → Ann := annP [] an17
def h17_1 (u1_0 : (List (ByteArray × (ByteArray × Unit)))) (u1_1 : Int) (u1_2 : (List Int)) (u1_3 : (List Int)) : St := ⟨85, [(4, (.lst (.pair .str (.pair .str .nl)) u1_0)), (10, (.ref 10 [])), (15, (.ref 15 [])), (16, (.int .i64 u1_1))], [(10, (.arr (.int .u64) 128 u1_2)), (15, (.arr (.int .u64) 128 u1_3))]⟩
def h17_0 (u0_0 : Int) (u0_1 : ByteArray) (u0_2 : ByteArray) (u0_3 : Int) (u0_4 : (List (ByteArray × (ByteArray × Unit)))) (u0_5 : Int) (u0_6 : (List Int)) : St := ⟨85, [(0, (.int .i64 u0_0)), (1, (.str u0_1)), (2, (.str u0_2)), (3, (.int .i64 u0_3)), (4, (.lst (.pair .str (.pair .str .nl)) u0_4)), (10, (.ref 10 [])), (13, (.int .i64 u0_5))], [(10, (.arr (.int .u64) 128 u0_6))]⟩
theorem t17_1 : ∀ (N : Nat) (n : Nat) (u1_0 : (List (ByteArray × (ByteArray × Unit)))) (u1_1 : Int) (u1_2 : (List Int)) (u1_3 : (List Int)), loopAt (c17 N) a17 [1, 1, 1, 1, 1, 1, 0, 1, 0] [] (codeOf Try.f17) (k17 N) n (h17_1 u1_0 u1_1 u1_2 u1_3) = m_ticketlineref16_Of_l1 N n u1_0 u1_1 u1_2 u1_3 := by
  intro N n
  induction n with
  | zero => intro u1_0 u1_1 u1_2 u1_3; kernel_rfl
  | succ n ih =>
    intro u1_0 u1_1 u1_2 u1_3
    have e : loopAt (c17 N) a17 [1, 1, 1, 1, 1, 1, 0, 1, 0] [] (codeOf Try.f17) (k17 N) (n + 1) (h17_1 u1_0 u1_1 u1_2 u1_3) = m_ticketlineref16_Of_l1_b (fun w0 w1 w2 w3 => loopAt (c17 N) a17 [1, 1, 1, 1, 1, 1, 0, 1, 0] [] (codeOf Try.f17) (k17 N) n (h17_1 w0 w1 w2 w3)) u1_0 u1_1 u1_2 u1_3 := by kernel_rfl
    refine e.trans ?_
    have es : (fun w0 w1 w2 w3 => loopAt (c17 N) a17 [1, 1, 1, 1, 1, 1, 0, 1, 0] [] (codeOf Try.f17) (k17 N) n (h17_1 w0 w1 w2 w3)) = m_ticketlineref16_Of_l1 N n := by
      funext w0 w1 w2 w3; exact ih w0 w1 w2 w3
    rw [es]
    rw [m_ticketlineref16_Of_l1]
theorem t17_0 : ∀ (N : Nat) (n : Nat) (u0_0 : Int) (u0_1 : ByteArray) (u0_2 : ByteArray) (u0_3 : Int) (u0_4 : (List (ByteArray × (ByteArray × Unit)))) (u0_5 : Int) (u0_6 : (List Int)), loopAt (c17 N) a17 [1, 1, 0, 1, 0] [] (codeOf Try.f17) (k17 N) n (h17_0 u0_0 u0_1 u0_2 u0_3 u0_4 u0_5 u0_6) = m_ticketlineref16_Of_l0 N n u0_0 u0_1 u0_2 u0_3 u0_4 u0_5 u0_6 := by
  intro N n
  induction n with
  | zero => intro u0_0 u0_1 u0_2 u0_3 u0_4 u0_5 u0_6; kernel_rfl
  | succ n ih =>
    intro u0_0 u0_1 u0_2 u0_3 u0_4 u0_5 u0_6
    have e : loopAt (c17 N) a17 [1, 1, 0, 1, 0] [] (codeOf Try.f17) (k17 N) (n + 1) (h17_0 u0_0 u0_1 u0_2 u0_3 u0_4 u0_5 u0_6) = m_ticketlineref16_Of_l0_b (fun w0 w1 w2 w3 w4 w5 w6 => loopAt (c17 N) a17 [1, 1, 0, 1, 0] [] (codeOf Try.f17) (k17 N) n (h17_0 w0 w1 w2 w3 w4 w5 w6)) (fun w0 w1 w2 w3 => loopAt (c17 N) a17 [1, 1, 1, 1, 1, 1, 0, 1, 0] [] (codeOf Try.f17) (k17 N) N (h17_1 w0 w1 w2 w3)) u0_0 u0_1 u0_2 u0_3 u0_4 u0_5 u0_6 := by kernel_rfl
    refine e.trans ?_
    have e1 : (fun w0 w1 w2 w3 => loopAt (c17 N) a17 [1, 1, 1, 1, 1, 1, 0, 1, 0] [] (codeOf Try.f17) (k17 N) N (h17_1 w0 w1 w2 w3)) = m_ticketlineref16_Of_l1 N N := by
      funext w0 w1 w2 w3; exact t17_1 N N w0 w1 w2 w3
    rw [e1]
    have es : (fun w0 w1 w2 w3 w4 w5 w6 => loopAt (c17 N) a17 [1, 1, 0, 1, 0] [] (codeOf Try.f17) (k17 N) n (h17_0 w0 w1 w2 w3 w4 w5 w6)) = m_ticketlineref16_Of_l0 N n := by
      funext w0 w1 w2 w3 w4 w5 w6; exact ih w0 w1 w2 w3 w4 w5 w6
    rw [es]
    rw [m_ticketlineref16_Of_l0]
theorem ew17 : ∀ (N : Nat) (x : g17.ps.den), evalFn (c17 N) an17 Try.f17 (codeOf Try.f17) g17 x (fun p => (p.1.1, p.1.2.1)) = m_ticketlineref16_Of_a (m_ticketlineref16_Of_l0 N N) x.1 x.2.1 x.2.2.1 x.2.2.2.1 x.2.2.2.2.1 := by
  intro N
  intro x
  obtain ⟨x0, x1, x2, x3, x4, xu⟩ := x
  have e : evalFn (c17 N) an17 Try.f17 (codeOf Try.f17) g17 (x0, x1, x2, x3, x4, xu) (fun p => (p.1.1, p.1.2.1)) = m_ticketlineref16_Of_a (fun w0 w1 w2 w3 w4 w5 w6 => loopAt (c17 N) a17 [1, 1, 0, 1, 0] [] (codeOf Try.f17) (k17 N) N (h17_0 w0 w1 w2 w3 w4 w5 w6)) x0 x1 x2 x3 x4 := by kernel_rfl
  refine e.trans ?_
  have e0 : (fun w0 w1 w2 w3 w4 w5 w6 => loopAt (c17 N) a17 [1, 1, 0, 1, 0] [] (codeOf Try.f17) (k17 N) N (h17_0 w0 w1 w2 w3 w4 w5 w6)) = m_ticketlineref16_Of_l0 N N := by
    funext w0 w1 w2 w3 w4 w5 w6; exact t17_0 N N w0 w1 w2 w3 w4 w5 w6
  rw [e0]
theorem ev17 : ∀ x : g17.ps.den, evalFn (c17 FUEL) an17 Try.f17 (codeOf Try.f17) g17 x (fun p => (p.1.1, p.1.2.1)) = g17.m x := fun x => ew17 FUEL x
theorem meets17 : Meets Try.prog 17 g17 :=
  meets_of (C := c17 FUEL) (ann := an17) (mkC_ok (gs := [(23, g23), (25, g25), (27, g27), (38, g38), (39, g39)]) (is := []) (mt := mtL) tysOK elemOK ⟨meets23, meets25, meets27, meets38, meets39, trivial⟩ trivial mtOK FUEL) mixed Try.func17 (by kernel_rfl) (by kernel_rfl) (by kernel_rfl) (of_decide_eq_true (by kernel_rfl)) (fun p => (p.1.1, p.1.2.1)) (fun _ _ => ⟨rfl, rfl⟩) ev17
def c50 (N : Nat) : Cx := mkC tyL [(52, g52)] [] mtL N
def g50 : Sig := ⟨(.cons (.rptr (.arr 128 (.int .u64))) (.cons (.pure (.int .i64)) .nl)), (.cons (.pure (.pair .str (.pair .str .nl))) (.cons (.pure (.int .i64)) .nl)), ((ByteArray × (ByteArray × Unit)) × Int), fun x => m_slot_pair x.1 x.2.1, fun _ y => (y.1, (y.2, ())), fun _ y => ((), ((), ()))⟩
def an50 : Nat → Ann := mkA []
theorem ev50 : ∀ x : g50.ps.den, evalFn (c50 FUEL) an50 Try.f50 (codeOf Try.f50) g50 x (fun p => (p.1.1, p.1.2.1)) = g50.m x := by
  intro x
  obtain ⟨x0, x1, xu⟩ := x
  show _ = _
  kernel_rfl
theorem meets50 : Meets Try.prog 50 g50 :=
  meets_of (C := c50 FUEL) (ann := an50) (mkC_ok (gs := [(52, g52)]) (is := []) (mt := mtL) tysOK elemOK ⟨meets52, trivial⟩ trivial mtOK FUEL) mixed Try.func50 (by kernel_rfl) (by kernel_rfl) (by kernel_rfl) (of_decide_eq_true (by kernel_rfl)) (fun p => (p.1.1, p.1.2.1)) (fun _ _ => ⟨rfl, rfl⟩) ev50
def c29 (N : Nat) : Cx := mkC tyL [(50, g50), (51, g51)] [] mtL N
def g29 : Sig := ⟨(.cons (.pure (.arr 128 (.int .u64))) (.cons (.pure (.int .i64)) .nl)), (.cons (.pure (.int .i64)) (.cons (.pure (.int .i64)) .nl)), (Int × Int), fun x => m_slot_Child x.1 x.2.1, fun _ y => (y.1, (y.2, ())), fun _ y => ((), ((), ()))⟩
def an29 : Nat → Ann := mkA []
theorem ev29 : ∀ x : g29.ps.den, evalFn (c29 FUEL) an29 Try.f29 (codeOf Try.f29) g29 x (fun p => (p.1.1, p.1.2.1)) = g29.m x := by
  intro x
  obtain ⟨x0, x1, xu⟩ := x
  show _ = _
  kernel_rfl
theorem meets29 : Meets Try.prog 29 g29 :=
  meets_of (C := c29 FUEL) (ann := an29) (mkC_ok (gs := [(50, g50), (51, g51)]) (is := []) (mt := mtL) tysOK elemOK ⟨meets50, meets51, trivial⟩ trivial mtOK FUEL) mixed Try.func29 (by kernel_rfl) (by kernel_rfl) (by kernel_rfl) (of_decide_eq_true (by kernel_rfl)) (fun p => (p.1.1, p.1.2.1)) (fun _ _ => ⟨rfl, rfl⟩) ev29
def c30 (N : Nat) : Cx := mkC tyL [(50, g50)] [] mtL N
def g30 : Sig := ⟨(.cons (.pure (.arr 128 (.int .u64))) (.cons (.pure (.int .i64)) .nl)), (.cons (.pure .str) (.cons (.pure (.int .i64)) .nl)), (ByteArray × Int), fun x => m_slot_Key x.1 x.2.1, fun _ y => (y.1, (y.2, ())), fun _ y => ((), ((), ()))⟩
def an30 : Nat → Ann := mkA []
theorem ev30 : ∀ x : g30.ps.den, evalFn (c30 FUEL) an30 Try.f30 (codeOf Try.f30) g30 x (fun p => (p.1.1, p.1.2.1)) = g30.m x := by
  intro x
  obtain ⟨x0, x1, xu⟩ := x
  show _ = _
  kernel_rfl
theorem meets30 : Meets Try.prog 30 g30 :=
  meets_of (C := c30 FUEL) (ann := an30) (mkC_ok (gs := [(50, g50)]) (is := []) (mt := mtL) tysOK elemOK ⟨meets50, trivial⟩ trivial mtOK FUEL) mixed Try.func30 (by kernel_rfl) (by kernel_rfl) (by kernel_rfl) (of_decide_eq_true (by kernel_rfl)) (fun p => (p.1.1, p.1.2.1)) (fun _ _ => ⟨rfl, rfl⟩) ev30
def c31 (N : Nat) : Cx := mkC tyL [(52, g52)] [] mtL N
def g31 : Sig := ⟨(.cons (.pure (.arr 128 (.int .u64))) .nl), (.cons (.pure (.int .i64)) .nl), Int, fun x => m_slot_Len x.1, fun _ y => (y, ()), fun _ y => ((), ())⟩
def an31 : Nat → Ann := mkA []
theorem ev31 : ∀ x : g31.ps.den, evalFn (c31 FUEL) an31 Try.f31 (codeOf Try.f31) g31 x (fun p => p.1.1) = g31.m x := by
  intro x
  obtain ⟨x0, xu⟩ := x
  show _ = _
  kernel_rfl
theorem meets31 : Meets Try.prog 31 g31 :=
  meets_of (C := c31 FUEL) (ann := an31) (mkC_ok (gs := [(52, g52)]) (is := []) (mt := mtL) tysOK elemOK ⟨meets52, trivial⟩ trivial mtOK FUEL) mixed Try.func31 (by kernel_rfl) (by kernel_rfl) (by kernel_rfl) (of_decide_eq_true (by kernel_rfl)) (fun p => p.1.1) (fun _ _ => ⟨rfl, rfl⟩) ev31
def c9 (N : Nat) : Cx := mkC tyL [(11, g11), (15, g15), (16, g16), (17, g17), (28, g28), (29, g29), (30, g30), (31, g31)] [] mtL N
def g9 : Sig := ⟨.nl, (.cons (.pure .bool) .nl), Bool, fun x => m_ticketlinelaw17_known, fun _ y => (y, ()), fun _ y => ()⟩
def an9 : Nat → Ann := mkA []
theorem ev9 : ∀ x : g9.ps.den, evalFn (c9 FUEL) an9 Try.f9 (codeOf Try.f9) g9 x (fun p => p.1.1) = g9.m x := by
  intro x
  show _ = _
  kernel_rfl
theorem meets9 : Meets Try.prog 9 g9 :=
  meets_of (C := c9 FUEL) (ann := an9) (mkC_ok (gs := [(11, g11), (15, g15), (16, g16), (17, g17), (28, g28), (29, g29), (30, g30), (31, g31)]) (is := []) (mt := mtL) tysOK elemOK ⟨meets11, meets15, meets16, meets17, meets28, meets29, meets30, meets31, trivial⟩ trivial mtOK FUEL) mixed Try.func9 (by kernel_rfl) (by kernel_rfl) (by kernel_rfl) (of_decide_eq_true (by kernel_rfl)) (fun p => p.1.1) (fun _ _ => ⟨rfl, rfl⟩) ev9
def c33 (N : Nat) : Cx := mkC tyL [] [] mtL N
def g33 : Sig := ⟨(.cons (.pure (.int .u64)) .nl), (.cons (.pure (.pair (.int .i64) (.pair (.int .i64) (.pair (.int .i64) .nl)))) (.cons (.pure .bool) .nl)), ((Int × (Int × (Int × Unit))) × Bool), fun x => m_ticketlineref14_SlotOf x.1, fun _ y => (y.1, (y.2, ())), fun _ y => ((), ())⟩
def an33 : Nat → Ann := mkA []
theorem ev33 : ∀ x : g33.ps.den, evalFn (c33 FUEL) an33 Try.f33 (codeOf Try.f33) g33 x (fun p => (p.1.1, p.1.2.1)) = g33.m x := by
  intro x
  obtain ⟨x0, xu⟩ := x
  show _ = _
  kernel_rfl
theorem meets33 : Meets Try.prog 33 g33 :=
  meets_of (C := c33 FUEL) (ann := an33) (mkC_ok (gs := []) (is := []) (mt := mtL) tysOK elemOK trivial trivial mtOK FUEL) mixed Try.func33 (by kernel_rfl) (by kernel_rfl) (by kernel_rfl) (of_decide_eq_true (by kernel_rfl)) (fun p => (p.1.1, p.1.2.1)) (fun _ _ => ⟨rfl, rfl⟩) ev33
def c35 (N : Nat) : Cx := mkC tyL [] [] mtL N
def g35 : Sig := ⟨(.cons (.pure (.sl (.int .u64))) (.cons (.pure (.int .i64)) .nl)), (.cons (.pure .str) (.cons (.pure .bool) .nl)), (ByteArray × Bool), fun x => m_ticketlineref14_Text x.1 x.2.1, fun _ y => (y.1, (y.2, ())), fun _ y => ((), ((), ()))⟩
def an35 : Nat → Ann := mkA [(3, ⟨[0, 1, 6, 7], [], [14], false⟩), (7, ⟨[0, 1, 6, 7, 8, 9], [], [14], false⟩), (14, ⟨[1, 6, 10], [], [14], false⟩)]
noncomputable def k35 (N : Nat) : Ex → St → Option (ByteArray × Bool) := finK (c35 N) Try.f35 g35 (.cons .top (.cons .top .nl)) (fun p => (p.1.1, p.1.2.1))
def a35 : Nat → Ann := annP [] an35
def h35_1 (u1_0 : (List Int)) (u1_1 : Int) (u1_2 : Int) (u1_3 : Int) (u1_4 : Int) (u1_5 : (List Int)) : St := ⟨60, [(0, (.lst (.int .u64) u1_0)), (1, (.int .i64 u1_1)), (6, (.full 14)), (7, (.int .i64 u1_2)), (8, (.int .u64 u1_3)), (9, (.int .i64 u1_4))], [(14, (.bk (.int .u8) u1_5))]⟩
def h35_2 (u2_0 : Int) (u2_1 : Int) (u2_2 : (List Int)) : St := ⟨60, [(1, (.int .i64 u2_0)), (6, (.full 14)), (10, (.int .i64 u2_1))], [(14, (.bk (.int .u8) u2_2))]⟩
def h35_0 (u0_0 : (List Int)) (u0_1 : Int) (u0_2 : Int) (u0_3 : (List Int)) : St := ⟨60, [(0, (.lst (.int .u64) u0_0)), (1, (.int .i64 u0_1)), (6, (.full 14)), (7, (.int .i64 u0_2))], [(14, (.bk (.int .u8) u0_3))]⟩
theorem t35_1 : ∀ (N : Nat) (m0 : Nat) (n : Nat) (u1_0 : (List Int)) (u1_1 : Int) (u1_2 : Int) (u1_3 : Int) (u1_4 : Int) (u1_5 : (List Int)), loopAt (c35 N) a35 [1, 1, 0, 1, 0, 0, 1, 0, 0, 1, 1, 0] [m0] (codeOf Try.f35) (k35 N) n (h35_1 u1_0 u1_1 u1_2 u1_3 u1_4 u1_5) = m_ticketlineref14_Text_l1 N (fun w0 w1 w2 w3 => loopAt (c35 N) a35 [1, 1, 0, 1, 0] [] (codeOf Try.f35) (k35 N) m0 (h35_0 w0 w1 w2 w3)) n u1_0 u1_1 u1_2 u1_3 u1_4 u1_5 := by
  intro N m0 n
  induction n with
  | zero => intro u1_0 u1_1 u1_2 u1_3 u1_4 u1_5; kernel_rfl
  | succ n ih =>
    intro u1_0 u1_1 u1_2 u1_3 u1_4 u1_5
    have e : loopAt (c35 N) a35 [1, 1, 0, 1, 0, 0, 1, 0, 0, 1, 1, 0] [m0] (codeOf Try.f35) (k35 N) (n + 1) (h35_1 u1_0 u1_1 u1_2 u1_3 u1_4 u1_5) = m_ticketlineref14_Text_l1_b (fun w0 w1 w2 w3 => loopAt (c35 N) a35 [1, 1, 0, 1, 0] [] (codeOf Try.f35) (k35 N) m0 (h35_0 w0 w1 w2 w3)) (fun w0 w1 w2 w3 w4 w5 => loopAt (c35 N) a35 [1, 1, 0, 1, 0, 0, 1, 0, 0, 1, 1, 0] [m0] (codeOf Try.f35) (k35 N) n (h35_1 w0 w1 w2 w3 w4 w5)) u1_0 u1_1 u1_2 u1_3 u1_4 u1_5 := by kernel_rfl
    refine e.trans ?_
    have es : (fun w0 w1 w2 w3 w4 w5 => loopAt (c35 N) a35 [1, 1, 0, 1, 0, 0, 1, 0, 0, 1, 1, 0] [m0] (codeOf Try.f35) (k35 N) n (h35_1 w0 w1 w2 w3 w4 w5)) = m_ticketlineref14_Text_l1 N (fun w0 w1 w2 w3 => loopAt (c35 N) a35 [1, 1, 0, 1, 0] [] (codeOf Try.f35) (k35 N) m0 (h35_0 w0 w1 w2 w3)) n := by
      funext w0 w1 w2 w3 w4 w5; exact ih w0 w1 w2 w3 w4 w5
    rw [es]
    rw [m_ticketlineref14_Text_l1]
theorem t35_2 : ∀ (N : Nat) (n : Nat) (u2_0 : Int) (u2_1 : Int) (u2_2 : (List Int)), loopAt (c35 N) a35 [1, 1, 1, 1, 0, 1, 0] [] (codeOf Try.f35) (k35 N) n (h35_2 u2_0 u2_1 u2_2) = m_ticketlineref14_Text_l2 N n u2_0 u2_1 u2_2 := by
  intro N n
  induction n with
  | zero => intro u2_0 u2_1 u2_2; kernel_rfl
  | succ n ih =>
    intro u2_0 u2_1 u2_2
    have e : loopAt (c35 N) a35 [1, 1, 1, 1, 0, 1, 0] [] (codeOf Try.f35) (k35 N) (n + 1) (h35_2 u2_0 u2_1 u2_2) = m_ticketlineref14_Text_l2_b (fun w0 w1 w2 => loopAt (c35 N) a35 [1, 1, 1, 1, 0, 1, 0] [] (codeOf Try.f35) (k35 N) n (h35_2 w0 w1 w2)) u2_0 u2_1 u2_2 := by kernel_rfl
    refine e.trans ?_
    have es : (fun w0 w1 w2 => loopAt (c35 N) a35 [1, 1, 1, 1, 0, 1, 0] [] (codeOf Try.f35) (k35 N) n (h35_2 w0 w1 w2)) = m_ticketlineref14_Text_l2 N n := by
      funext w0 w1 w2; exact ih w0 w1 w2
    rw [es]
    rw [m_ticketlineref14_Text_l2]
theorem t35_0 : ∀ (N : Nat) (n : Nat) (u0_0 : (List Int)) (u0_1 : Int) (u0_2 : Int) (u0_3 : (List Int)), loopAt (c35 N) a35 [1, 1, 0, 1, 0] [] (codeOf Try.f35) (k35 N) n (h35_0 u0_0 u0_1 u0_2 u0_3) = m_ticketlineref14_Text_l0 N n u0_0 u0_1 u0_2 u0_3 := by
  intro N n
  induction n with
  | zero => intro u0_0 u0_1 u0_2 u0_3; kernel_rfl
  | succ n ih =>
    intro u0_0 u0_1 u0_2 u0_3
    have e : loopAt (c35 N) a35 [1, 1, 0, 1, 0] [] (codeOf Try.f35) (k35 N) (n + 1) (h35_0 u0_0 u0_1 u0_2 u0_3) = m_ticketlineref14_Text_l0_b (fun w0 w1 w2 w3 => loopAt (c35 N) a35 [1, 1, 0, 1, 0] [] (codeOf Try.f35) (k35 N) n (h35_0 w0 w1 w2 w3)) (fun w0 w1 w2 w3 w4 w5 => loopAt (c35 N) a35 [1, 1, 0, 1, 0, 0, 1, 0, 0, 1, 1, 0] [n] (codeOf Try.f35) (k35 N) N (h35_1 w0 w1 w2 w3 w4 w5)) (fun w0 w1 w2 => loopAt (c35 N) a35 [1, 1, 1, 1, 0, 1, 0] [] (codeOf Try.f35) (k35 N) N (h35_2 w0 w1 w2)) u0_0 u0_1 u0_2 u0_3 := by kernel_rfl
    refine e.trans ?_
    have e1 : (fun w0 w1 w2 w3 w4 w5 => loopAt (c35 N) a35 [1, 1, 0, 1, 0, 0, 1, 0, 0, 1, 1, 0] [n] (codeOf Try.f35) (k35 N) N (h35_1 w0 w1 w2 w3 w4 w5)) = m_ticketlineref14_Text_l1 N (fun w0 w1 w2 w3 => loopAt (c35 N) a35 [1, 1, 0, 1, 0] [] (codeOf Try.f35) (k35 N) n (h35_0 w0 w1 w2 w3)) N := by
      funext w0 w1 w2 w3 w4 w5; exact t35_1 N n N w0 w1 w2 w3 w4 w5
    rw [e1]
    have e2 : (fun w0 w1 w2 => loopAt (c35 N) a35 [1, 1, 1, 1, 0, 1, 0] [] (codeOf Try.f35) (k35 N) N (h35_2 w0 w1 w2)) = m_ticketlineref14_Text_l2 N N := by
      funext w0 w1 w2; exact t35_2 N N w0 w1 w2
    rw [e2]
    have es : (fun w0 w1 w2 w3 => loopAt (c35 N) a35 [1, 1, 0, 1, 0] [] (codeOf Try.f35) (k35 N) n (h35_0 w0 w1 w2 w3)) = m_ticketlineref14_Text_l0 N n := by
      funext w0 w1 w2 w3; exact ih w0 w1 w2 w3
    rw [es]
    rw [m_ticketlineref14_Text_l0]
theorem ew35 : ∀ (N : Nat) (x : g35.ps.den), evalFn (c35 N) an35 Try.f35 (codeOf Try.f35) g35 x (fun p => (p.1.1, p.1.2.1)) = m_ticketlineref14_Text_a (m_ticketlineref14_Text_l0 N N) x.1 x.2.1 := by
  intro N
  intro x
  obtain ⟨x0, x1, xu⟩ := x
  have e : evalFn (c35 N) an35 Try.f35 (codeOf Try.f35) g35 (x0, x1, xu) (fun p => (p.1.1, p.1.2.1)) = m_ticketlineref14_Text_a (fun w0 w1 w2 w3 => loopAt (c35 N) a35 [1, 1, 0, 1, 0] [] (codeOf Try.f35) (k35 N) N (h35_0 w0 w1 w2 w3)) x0 x1 := by kernel_rfl
  refine e.trans ?_
  have e0 : (fun w0 w1 w2 w3 => loopAt (c35 N) a35 [1, 1, 0, 1, 0] [] (codeOf Try.f35) (k35 N) N (h35_0 w0 w1 w2 w3)) = m_ticketlineref14_Text_l0 N N := by
    funext w0 w1 w2 w3; exact t35_0 N N w0 w1 w2 w3
  rw [e0]
theorem ev35 : ∀ x : g35.ps.den, evalFn (c35 FUEL) an35 Try.f35 (codeOf Try.f35) g35 x (fun p => (p.1.1, p.1.2.1)) = g35.m x := fun x => ew35 FUEL x
theorem meets35 : Meets Try.prog 35 g35 :=
  meets_of (C := c35 FUEL) (ann := an35) (mkC_ok (gs := []) (is := []) (mt := mtL) tysOK elemOK trivial trivial mtOK FUEL) mixed Try.func35 (by kernel_rfl) (by kernel_rfl) (by kernel_rfl) (of_decide_eq_true (by kernel_rfl)) (fun p => (p.1.1, p.1.2.1)) (fun _ _ => ⟨rfl, rfl⟩) ev35
def c36 (N : Nat) : Cx := mkC tyL [(34, g34)] [] mtL N
def g36 : Sig := ⟨(.cons (.pure (.pair (.int .i64) (.pair (.int .i64) (.pair (.int .i64) .nl)))) .nl), (.cons (.pure (.int .i64)) .nl), Int, fun x => m_ticketlineref14_Slot_End x.1, fun _ y => (y, ()), fun _ y => ((), ())⟩
def an36 : Nat → Ann := mkA []
theorem ev36 : ∀ x : g36.ps.den, evalFn (c36 FUEL) an36 Try.f36 (codeOf Try.f36) g36 x (fun p => p.1.1) = g36.m x := by
  intro x
  obtain ⟨x0, xu⟩ := x
  show _ = _
  kernel_rfl
theorem meets36 : Meets Try.prog 36 g36 :=
  meets_of (C := c36 FUEL) (ann := an36) (mkC_ok (gs := [(34, g34)]) (is := []) (mt := mtL) tysOK elemOK ⟨meets34, trivial⟩ trivial mtOK FUEL) mixed Try.func36 (by kernel_rfl) (by kernel_rfl) (by kernel_rfl) (of_decide_eq_true (by kernel_rfl)) (fun p => p.1.1) (fun _ _ => ⟨rfl, rfl⟩) ev36
def c12 (N : Nat) : Cx := mkC tyL [(33, g33), (34, g34), (35, g35), (36, g36)] [] mtL N
def g12 : Sig := ⟨(.cons (.pure (.arr 128 (.int .u64))) .nl), (.cons (.own (.pair .str (.pair .str .nl))) .nl), (List (ByteArray × (ByteArray × Unit))), fun x => m_ticketlineref14_Pairs x.1, fun _ y => (y, ()), fun _ y => ((), ())⟩
def an12 : Nat → Ann := mkA [(3, ⟨[1, 4], [(3, (.pair .str (.pair .str .nl)))], [1], false⟩)]
noncomputable def k12 (N : Nat) : Ex → St → Option (List (ByteArray × (ByteArray × Unit))) := finK (c12 N) Try.f12 g12 (.cons .top .nl) (fun p => p.1.1)
def a12 : Nat → Ann := annP [] an12
def h12_0 (u0_0 : Int) (u0_1 : (List Int)) (u0_2 : (List (ByteArray × (ByteArray × Unit)))) : St := ⟨60, [(3, .full 300003), (1, (.ref 1 [])), (4, (.int .i64 u0_0))], [(1, (.arr (.int .u64) 128 u0_1)), (300003, (.bk (.pair .str (.pair .str .nl)) u0_2))]⟩
theorem t12_0 : ∀ (N : Nat) (n : Nat) (u0_0 : Int) (u0_1 : (List Int)) (u0_2 : (List (ByteArray × (ByteArray × Unit)))), loopAt (c12 N) a12 [1, 1, 0, 1, 0] [] (codeOf Try.f12) (k12 N) n (h12_0 u0_0 u0_1 u0_2) = m_ticketlineref14_Pairs_l0 N n u0_0 u0_1 u0_2 := by
  intro N n
  induction n with
  | zero => intro u0_0 u0_1 u0_2; kernel_rfl
  | succ n ih =>
    intro u0_0 u0_1 u0_2
    have e : loopAt (c12 N) a12 [1, 1, 0, 1, 0] [] (codeOf Try.f12) (k12 N) (n + 1) (h12_0 u0_0 u0_1 u0_2) = m_ticketlineref14_Pairs_l0_b (fun w0 w1 w2 => loopAt (c12 N) a12 [1, 1, 0, 1, 0] [] (codeOf Try.f12) (k12 N) n (h12_0 w0 w1 w2)) u0_0 u0_1 u0_2 := by kernel_rfl
    refine e.trans ?_
    have es : (fun w0 w1 w2 => loopAt (c12 N) a12 [1, 1, 0, 1, 0] [] (codeOf Try.f12) (k12 N) n (h12_0 w0 w1 w2)) = m_ticketlineref14_Pairs_l0 N n := by
      funext w0 w1 w2; exact ih w0 w1 w2
    rw [es]
    rw [m_ticketlineref14_Pairs_l0]
theorem ew12 : ∀ (N : Nat) (x : g12.ps.den), evalFn (c12 N) an12 Try.f12 (codeOf Try.f12) g12 x (fun p => p.1.1) = m_ticketlineref14_Pairs_a (m_ticketlineref14_Pairs_l0 N N) x.1 := by
  intro N
  intro x
  obtain ⟨x0, xu⟩ := x
  have e : evalFn (c12 N) an12 Try.f12 (codeOf Try.f12) g12 (x0, xu) (fun p => p.1.1) = m_ticketlineref14_Pairs_a (fun w0 w1 w2 => loopAt (c12 N) a12 [1, 1, 0, 1, 0] [] (codeOf Try.f12) (k12 N) N (h12_0 w0 w1 w2)) x0 := by kernel_rfl
  refine e.trans ?_
  have e0 : (fun w0 w1 w2 => loopAt (c12 N) a12 [1, 1, 0, 1, 0] [] (codeOf Try.f12) (k12 N) N (h12_0 w0 w1 w2)) = m_ticketlineref14_Pairs_l0 N N := by
    funext w0 w1 w2; exact t12_0 N N w0 w1 w2
  rw [e0]
theorem ev12 : ∀ x : g12.ps.den, evalFn (c12 FUEL) an12 Try.f12 (codeOf Try.f12) g12 x (fun p => p.1.1) = g12.m x := fun x => ew12 FUEL x
theorem meets12 : Meets Try.prog 12 g12 :=
  meets_of (C := c12 FUEL) (ann := an12) (mkC_ok (gs := [(33, g33), (34, g34), (35, g35), (36, g36)]) (is := []) (mt := mtL) tysOK elemOK ⟨meets33, meets34, meets35, meets36, trivial⟩ trivial mtOK FUEL) mixed Try.func12 (by kernel_rfl) (by kernel_rfl) (by kernel_rfl) (of_decide_eq_true (by kernel_rfl)) (fun p => p.1.1) (fun _ _ => ⟨rfl, rfl⟩) ev12
def c46 (N : Nat) : Cx := mkC tyL [(35, g35)] [] mtL N
def g46 : Sig := ⟨(.cons (.pure (.arr 128 (.int .u64))) (.cons (.pure (.int .i64)) .nl)), (.cons (.pure .str) (.cons (.pure .bool) .nl)), (ByteArray × Bool), fun x => m_ticketlineref14_fence x.1 x.2.1, fun _ y => (y.1, (y.2, ())), fun _ y => ((), ((), ()))⟩
def an46 : Nat → Ann := mkA []
theorem ev46 : ∀ x : g46.ps.den, evalFn (c46 FUEL) an46 Try.f46 (codeOf Try.f46) g46 x (fun p => (p.1.1, p.1.2.1)) = g46.m x := by
  intro x
  obtain ⟨x0, x1, xu⟩ := x
  show _ = _
  kernel_rfl
theorem meets46 : Meets Try.prog 46 g46 :=
  meets_of (C := c46 FUEL) (ann := an46) (mkC_ok (gs := [(35, g35)]) (is := []) (mt := mtL) tysOK elemOK ⟨meets35, trivial⟩ trivial mtOK FUEL) mixed Try.func46 (by kernel_rfl) (by kernel_rfl) (by kernel_rfl) (of_decide_eq_true (by kernel_rfl)) (fun p => (p.1.1, p.1.2.1)) (fun _ _ => ⟨rfl, rfl⟩) ev46
def c21 (N : Nat) : Cx := mkC tyL [(33, g33), (34, g34), (35, g35), (36, g36), (46, g46)] [] mtL N
def g21 : Sig := ⟨(.cons (.pure (.arr 128 (.int .u64))) .nl), (.cons (.pure .bool) .nl), Bool, fun x => m_ticketlineref14_Valid x.1, fun _ y => (y, ()), fun _ y => ((), ())⟩
def an21 : Nat → Ann := mkA [(6, ⟨[1, 7], [], [1], false⟩), (17, ⟨[1, 7, 8, 15], [], [1, 8], false⟩)]
noncomputable def k21 (N : Nat) : Ex → St → Option Bool := finK (c21 N) Try.f21 g21 (.cons .top .nl) (fun p => p.1.1)
def a21 : Nat → Ann := annP [] an21
def h21_1 (u1_0 : Int) (u1_1 : Int) (u1_2 : (List Int)) (u1_3 : Int) (u1_4 : Int) (u1_5 : Int) : St := ⟨205, [(1, (.ref 1 [])), (7, (.int .i64 u1_0)), (8, (.ref 8 [])), (15, (.int .i64 u1_1))], [(1, (.arr (.int .u64) 128 u1_2)), (8, (.cons (.int .i64 u1_3) (.cons (.int .i64 u1_4) (.cons (.int .i64 u1_5) .nl))))]⟩
def h21_0 (u0_0 : Int) (u0_1 : (List Int)) : St := ⟨205, [(1, (.ref 1 [])), (7, (.int .i64 u0_0))], [(1, (.arr (.int .u64) 128 u0_1))]⟩
theorem t21_1 : ∀ (N : Nat) (m0 : Nat) (n : Nat) (u1_0 : Int) (u1_1 : Int) (u1_2 : (List Int)) (u1_3 : Int) (u1_4 : Int) (u1_5 : Int), loopAt (c21 N) a21 [1, 1, 1, 1, 0, 1, 0, 0, 1, 0, 0, 1, 1, 1, 1, 1, 1, 1, 0] [m0] (codeOf Try.f21) (k21 N) n (h21_1 u1_0 u1_1 u1_2 u1_3 u1_4 u1_5) = m_ticketlineref14_Valid_l1 N (fun w0 w1 => loopAt (c21 N) a21 [1, 1, 1, 1, 0, 1, 0] [] (codeOf Try.f21) (k21 N) m0 (h21_0 w0 w1)) n u1_0 u1_1 u1_2 u1_3 u1_4 u1_5 := by
  intro N m0 n
  induction n with
  | zero => intro u1_0 u1_1 u1_2 u1_3 u1_4 u1_5; kernel_rfl
  | succ n ih =>
    intro u1_0 u1_1 u1_2 u1_3 u1_4 u1_5
    have e : loopAt (c21 N) a21 [1, 1, 1, 1, 0, 1, 0, 0, 1, 0, 0, 1, 1, 1, 1, 1, 1, 1, 0] [m0] (codeOf Try.f21) (k21 N) (n + 1) (h21_1 u1_0 u1_1 u1_2 u1_3 u1_4 u1_5) = m_ticketlineref14_Valid_l1_b (fun w0 w1 => loopAt (c21 N) a21 [1, 1, 1, 1, 0, 1, 0] [] (codeOf Try.f21) (k21 N) m0 (h21_0 w0 w1)) (fun w0 w1 w2 w3 w4 w5 => loopAt (c21 N) a21 [1, 1, 1, 1, 0, 1, 0, 0, 1, 0, 0, 1, 1, 1, 1, 1, 1, 1, 0] [m0] (codeOf Try.f21) (k21 N) n (h21_1 w0 w1 w2 w3 w4 w5)) u1_0 u1_1 u1_2 u1_3 u1_4 u1_5 := by kernel_rfl
    refine e.trans ?_
    have es : (fun w0 w1 w2 w3 w4 w5 => loopAt (c21 N) a21 [1, 1, 1, 1, 0, 1, 0, 0, 1, 0, 0, 1, 1, 1, 1, 1, 1, 1, 0] [m0] (codeOf Try.f21) (k21 N) n (h21_1 w0 w1 w2 w3 w4 w5)) = m_ticketlineref14_Valid_l1 N (fun w0 w1 => loopAt (c21 N) a21 [1, 1, 1, 1, 0, 1, 0] [] (codeOf Try.f21) (k21 N) m0 (h21_0 w0 w1)) n := by
      funext w0 w1 w2 w3 w4 w5; exact ih w0 w1 w2 w3 w4 w5
    rw [es]
    rw [m_ticketlineref14_Valid_l1]
theorem t21_0 : ∀ (N : Nat) (n : Nat) (u0_0 : Int) (u0_1 : (List Int)), loopAt (c21 N) a21 [1, 1, 1, 1, 0, 1, 0] [] (codeOf Try.f21) (k21 N) n (h21_0 u0_0 u0_1) = m_ticketlineref14_Valid_l0 N n u0_0 u0_1 := by
  intro N n
  induction n with
  | zero => intro u0_0 u0_1; kernel_rfl
  | succ n ih =>
    intro u0_0 u0_1
    have e : loopAt (c21 N) a21 [1, 1, 1, 1, 0, 1, 0] [] (codeOf Try.f21) (k21 N) (n + 1) (h21_0 u0_0 u0_1) = m_ticketlineref14_Valid_l0_b (fun w0 w1 => loopAt (c21 N) a21 [1, 1, 1, 1, 0, 1, 0] [] (codeOf Try.f21) (k21 N) n (h21_0 w0 w1)) (fun w0 w1 w2 w3 w4 w5 => loopAt (c21 N) a21 [1, 1, 1, 1, 0, 1, 0, 0, 1, 0, 0, 1, 1, 1, 1, 1, 1, 1, 0] [n] (codeOf Try.f21) (k21 N) N (h21_1 w0 w1 w2 w3 w4 w5)) u0_0 u0_1 := by kernel_rfl
    refine e.trans ?_
    have e1 : (fun w0 w1 w2 w3 w4 w5 => loopAt (c21 N) a21 [1, 1, 1, 1, 0, 1, 0, 0, 1, 0, 0, 1, 1, 1, 1, 1, 1, 1, 0] [n] (codeOf Try.f21) (k21 N) N (h21_1 w0 w1 w2 w3 w4 w5)) = m_ticketlineref14_Valid_l1 N (fun w0 w1 => loopAt (c21 N) a21 [1, 1, 1, 1, 0, 1, 0] [] (codeOf Try.f21) (k21 N) n (h21_0 w0 w1)) N := by
      funext w0 w1 w2 w3 w4 w5; exact t21_1 N n N w0 w1 w2 w3 w4 w5
    rw [e1]
    have es : (fun w0 w1 => loopAt (c21 N) a21 [1, 1, 1, 1, 0, 1, 0] [] (codeOf Try.f21) (k21 N) n (h21_0 w0 w1)) = m_ticketlineref14_Valid_l0 N n := by
      funext w0 w1; exact ih w0 w1
    rw [es]
    rw [m_ticketlineref14_Valid_l0]
theorem ew21 : ∀ (N : Nat) (x : g21.ps.den), evalFn (c21 N) an21 Try.f21 (codeOf Try.f21) g21 x (fun p => p.1.1) = m_ticketlineref14_Valid_a (m_ticketlineref14_Valid_l0 N N) x.1 := by
  intro N
  intro x
  obtain ⟨x0, xu⟩ := x
  have e : evalFn (c21 N) an21 Try.f21 (codeOf Try.f21) g21 (x0, xu) (fun p => p.1.1) = m_ticketlineref14_Valid_a (fun w0 w1 => loopAt (c21 N) a21 [1, 1, 1, 1, 0, 1, 0] [] (codeOf Try.f21) (k21 N) N (h21_0 w0 w1)) x0 := by kernel_rfl
  refine e.trans ?_
  have e0 : (fun w0 w1 => loopAt (c21 N) a21 [1, 1, 1, 1, 0, 1, 0] [] (codeOf Try.f21) (k21 N) N (h21_0 w0 w1)) = m_ticketlineref14_Valid_l0 N N := by
    funext w0 w1; exact t21_0 N N w0 w1
  rw [e0]
theorem ev21 : ∀ x : g21.ps.den, evalFn (c21 FUEL) an21 Try.f21 (codeOf Try.f21) g21 x (fun p => p.1.1) = g21.m x := fun x => ew21 FUEL x
theorem meets21 : Meets Try.prog 21 g21 :=
  meets_of (C := c21 FUEL) (ann := an21) (mkC_ok (gs := [(33, g33), (34, g34), (35, g35), (36, g36), (46, g46)]) (is := []) (mt := mtL) tysOK elemOK ⟨meets33, meets34, meets35, meets36, meets46, trivial⟩ trivial mtOK FUEL) mixed Try.func21 (by kernel_rfl) (by kernel_rfl) (by kernel_rfl) (of_decide_eq_true (by kernel_rfl)) (fun p => p.1.1) (fun _ _ => ⟨rfl, rfl⟩) ev21
def c10 (N : Nat) : Cx := mkC tyL [(12, g12), (21, g21)] [] mtL N
def g10 : Sig := ⟨(.cons (.pure (.arr 128 (.int .u64))) .nl), (.cons (.pure (.int .i64)) .nl), Int, fun x => m_ticketlineref15_Bad x.1, fun _ y => (y, ()), fun _ y => ((), ())⟩
def an10 : Nat → Ann := mkA [(5, ⟨[3, 4], [], [200288], false⟩)]
noncomputable def k10 (N : Nat) : Ex → St → Option Int := finK (c10 N) Try.f10 g10 (.cons .top .nl) (fun p => p.1.1)
def a10 : Nat → Ann := annP [] an10
def h10_0 (u0_0 : Int) (u0_1 : (List (ByteArray × (ByteArray × Unit)))) : St := ⟨28, [(3, (.full 200288)), (4, (.int .i64 u0_0))], [(200288, (.bk (.pair .str (.pair .str .nl)) u0_1))]⟩
theorem t10_0 : ∀ (N : Nat) (n : Nat) (u0_0 : Int) (u0_1 : (List (ByteArray × (ByteArray × Unit)))), loopAt (c10 N) a10 [1, 1, 1, 0, 1, 0] [] (codeOf Try.f10) (k10 N) n (h10_0 u0_0 u0_1) = m_ticketlineref15_Bad_l0 N n u0_0 u0_1 := by
  intro N n
  induction n with
  | zero => intro u0_0 u0_1; kernel_rfl
  | succ n ih =>
    intro u0_0 u0_1
    have e : loopAt (c10 N) a10 [1, 1, 1, 0, 1, 0] [] (codeOf Try.f10) (k10 N) (n + 1) (h10_0 u0_0 u0_1) = m_ticketlineref15_Bad_l0_b (fun w0 w1 => loopAt (c10 N) a10 [1, 1, 1, 0, 1, 0] [] (codeOf Try.f10) (k10 N) n (h10_0 w0 w1)) u0_0 u0_1 := by kernel_rfl
    refine e.trans ?_
    have es : (fun w0 w1 => loopAt (c10 N) a10 [1, 1, 1, 0, 1, 0] [] (codeOf Try.f10) (k10 N) n (h10_0 w0 w1)) = m_ticketlineref15_Bad_l0 N n := by
      funext w0 w1; exact ih w0 w1
    rw [es]
    rw [m_ticketlineref15_Bad_l0]
theorem ew10 : ∀ (N : Nat) (x : g10.ps.den), evalFn (c10 N) an10 Try.f10 (codeOf Try.f10) g10 x (fun p => p.1.1) = m_ticketlineref15_Bad_a (m_ticketlineref15_Bad_l0 N N) x.1 := by
  intro N
  intro x
  obtain ⟨x0, xu⟩ := x
  have e : evalFn (c10 N) an10 Try.f10 (codeOf Try.f10) g10 (x0, xu) (fun p => p.1.1) = m_ticketlineref15_Bad_a (fun w0 w1 => loopAt (c10 N) a10 [1, 1, 1, 0, 1, 0] [] (codeOf Try.f10) (k10 N) N (h10_0 w0 w1)) x0 := by kernel_rfl
  refine e.trans ?_
  have e0 : (fun w0 w1 => loopAt (c10 N) a10 [1, 1, 1, 0, 1, 0] [] (codeOf Try.f10) (k10 N) N (h10_0 w0 w1)) = m_ticketlineref15_Bad_l0 N N := by
    funext w0 w1; exact t10_0 N N w0 w1
  rw [e0]
theorem ev10 : ∀ x : g10.ps.den, evalFn (c10 FUEL) an10 Try.f10 (codeOf Try.f10) g10 x (fun p => p.1.1) = g10.m x := fun x => ew10 FUEL x
theorem meets10 : Meets Try.prog 10 g10 :=
  meets_of (C := c10 FUEL) (ann := an10) (mkC_ok (gs := [(12, g12), (21, g21)]) (is := []) (mt := mtL) tysOK elemOK ⟨meets12, meets21, trivial⟩ trivial mtOK FUEL) mixed Try.func10 (by kernel_rfl) (by kernel_rfl) (by kernel_rfl) (of_decide_eq_true (by kernel_rfl)) (fun p => p.1.1) (fun _ _ => ⟨rfl, rfl⟩) ev10
def c13 (N : Nat) : Cx := mkC tyL [(23, g23)] [] mtL N
def g13 : Sig := ⟨(.cons (.pure (.sl (.pair .str (.pair .str .nl)))) .nl), (.cons (.pure (.int .i64)) .nl), Int, fun x => m_ticketlineref17_Place x.1, fun _ y => (y, ()), fun _ y => ((), ())⟩
def an13 : Nat → Ann := mkA [(3, ⟨[0, 3, 4, 5], [], [], false⟩)]
noncomputable def k13 (N : Nat) : Ex → St → Option Int := finK (c13 N) Try.f13 g13 (.cons .top .nl) (fun p => p.1.1)
def a13 : Nat → Ann := annP [] an13
def h13_0 (u0_0 : (List (ByteArray × (ByteArray × Unit)))) (u0_1 : Int) (u0_2 : Int) (u0_3 : Int) : St := ⟨34, [(0, (.lst (.pair .str (.pair .str .nl)) u0_0)), (3, (.int .i64 u0_1)), (4, (.int .i64 u0_2)), (5, (.int .i64 u0_3))], []⟩
theorem t13_0 : ∀ (N : Nat) (n : Nat) (u0_0 : (List (ByteArray × (ByteArray × Unit)))) (u0_1 : Int) (u0_2 : Int) (u0_3 : Int), loopAt (c13 N) a13 [1, 1, 0, 1, 0] [] (codeOf Try.f13) (k13 N) n (h13_0 u0_0 u0_1 u0_2 u0_3) = m_ticketlineref17_Place_l0 N n u0_0 u0_1 u0_2 u0_3 := by
  intro N n
  induction n with
  | zero => intro u0_0 u0_1 u0_2 u0_3; kernel_rfl
  | succ n ih =>
    intro u0_0 u0_1 u0_2 u0_3
    have e : loopAt (c13 N) a13 [1, 1, 0, 1, 0] [] (codeOf Try.f13) (k13 N) (n + 1) (h13_0 u0_0 u0_1 u0_2 u0_3) = m_ticketlineref17_Place_l0_b (fun w0 w1 w2 w3 => loopAt (c13 N) a13 [1, 1, 0, 1, 0] [] (codeOf Try.f13) (k13 N) n (h13_0 w0 w1 w2 w3)) u0_0 u0_1 u0_2 u0_3 := by kernel_rfl
    refine e.trans ?_
    have es : (fun w0 w1 w2 w3 => loopAt (c13 N) a13 [1, 1, 0, 1, 0] [] (codeOf Try.f13) (k13 N) n (h13_0 w0 w1 w2 w3)) = m_ticketlineref17_Place_l0 N n := by
      funext w0 w1 w2 w3; exact ih w0 w1 w2 w3
    rw [es]
    rw [m_ticketlineref17_Place_l0]
theorem ew13 : ∀ (N : Nat) (x : g13.ps.den), evalFn (c13 N) an13 Try.f13 (codeOf Try.f13) g13 x (fun p => p.1.1) = m_ticketlineref17_Place_a (m_ticketlineref17_Place_l0 N N) x.1 := by
  intro N
  intro x
  obtain ⟨x0, xu⟩ := x
  have e : evalFn (c13 N) an13 Try.f13 (codeOf Try.f13) g13 (x0, xu) (fun p => p.1.1) = m_ticketlineref17_Place_a (fun w0 w1 w2 w3 => loopAt (c13 N) a13 [1, 1, 0, 1, 0] [] (codeOf Try.f13) (k13 N) N (h13_0 w0 w1 w2 w3)) x0 := by kernel_rfl
  refine e.trans ?_
  have e0 : (fun w0 w1 w2 w3 => loopAt (c13 N) a13 [1, 1, 0, 1, 0] [] (codeOf Try.f13) (k13 N) N (h13_0 w0 w1 w2 w3)) = m_ticketlineref17_Place_l0 N N := by
    funext w0 w1 w2 w3; exact t13_0 N N w0 w1 w2 w3
  rw [e0]
theorem ev13 : ∀ x : g13.ps.den, evalFn (c13 FUEL) an13 Try.f13 (codeOf Try.f13) g13 x (fun p => p.1.1) = g13.m x := fun x => ew13 FUEL x
theorem meets13 : Meets Try.prog 13 g13 :=
  meets_of (C := c13 FUEL) (ann := an13) (mkC_ok (gs := [(23, g23)]) (is := []) (mt := mtL) tysOK elemOK ⟨meets23, trivial⟩ trivial mtOK FUEL) mixed Try.func13 (by kernel_rfl) (by kernel_rfl) (by kernel_rfl) (of_decide_eq_true (by kernel_rfl)) (fun p => p.1.1) (fun _ _ => ⟨rfl, rfl⟩) ev13
def c3 (N : Nat) : Cx := mkC tyL [(8, g8), (9, g9), (10, g10), (11, g11), (12, g12), (13, g13)] [] mtL N
def g3 : Sig := ⟨(.cons (.pure (.pair (.int .i64) (.pair (.int .i64) (.pair .str (.pair .str (.pair (.sl (.pair .str (.pair .str .nl))) (.pair (.sl (.int .u8)) (.pair (.sl (.pair (.int .u8) (.pair (.int .u64) .nl))) .nl)))))))) .nl), (.cons (.pure .bool) .nl), Bool, fun x => m_ticketlinelaw17_SplitPlaces x.1, fun _ y => (y, ()), fun _ y => ((), ())⟩
def c22 (N : Nat) : Cx := mkC tyL [(46, g46)] [] mtL N
def g22 : Sig := ⟨(.cons (.pure (.arr 128 (.int .u64))) .nl), (.cons (.pure .str) (.cons (.pure .str) .nl)), (ByteArray × ByteArray), fun x => m_ticketlineref14_Fences x.1, fun _ y => (y.1, (y.2, ())), fun _ y => ((), ())⟩
def an22 : Nat → Ann := mkA []
theorem ev22 : ∀ x : g22.ps.den, evalFn (c22 FUEL) an22 Try.f22 (codeOf Try.f22) g22 x (fun p => (p.1.1, p.1.2.1)) = g22.m x := by
  intro x
  obtain ⟨x0, xu⟩ := x
  show _ = _
  kernel_rfl
theorem meets22 : Meets Try.prog 22 g22 :=
  meets_of (C := c22 FUEL) (ann := an22) (mkC_ok (gs := [(46, g46)]) (is := []) (mt := mtL) tysOK elemOK ⟨meets46, trivial⟩ trivial mtOK FUEL) mixed Try.func22 (by kernel_rfl) (by kernel_rfl) (by kernel_rfl) (of_decide_eq_true (by kernel_rfl)) (fun p => (p.1.1, p.1.2.1)) (fun _ _ => ⟨rfl, rfl⟩) ev22
def c37 (N : Nat) : Cx := mkC tyL [] [] mtL N
def g37 : Sig := ⟨(.cons (.pure (.arr 128 (.int .u64))) (.cons (.pure (.arr 128 (.int .u64))) .nl)), (.cons (.pure (.arr 128 (.int .u64))) .nl), (List Int), fun x => m_ticketlineref17_Keep x.1 x.2.1, fun _ y => (y, ()), fun _ y => ((), ((), ()))⟩
def an37 : Nat → Ann := mkA [(2, ⟨[2, 3, 4, 5], [], [2, 3, 4], false⟩)]
noncomputable def k37 (N : Nat) : Ex → St → Option (List Int) := finK (c37 N) Try.f37 g37 (.cons .top (.cons .top .nl)) (fun p => p.1.1)
def a37 : Nat → Ann := annP [] an37
def h37_0 (u0_0 : Int) (u0_1 : (List Int)) (u0_2 : (List Int)) (u0_3 : (List Int)) : St := ⟨16, [(2, (.ref 2 [])), (3, (.ref 3 [])), (4, (.ref 4 [])), (5, (.int .i64 u0_0))], [(2, (.arr (.int .u64) 128 u0_1)), (3, (.arr (.int .u64) 128 u0_2)), (4, (.arr (.int .u64) 128 u0_3))]⟩
theorem t37_0 : ∀ (N : Nat) (n : Nat) (u0_0 : Int) (u0_1 : (List Int)) (u0_2 : (List Int)) (u0_3 : (List Int)), loopAt (c37 N) a37 [1, 0, 1, 0] [] (codeOf Try.f37) (k37 N) n (h37_0 u0_0 u0_1 u0_2 u0_3) = m_ticketlineref17_Keep_l0 N n u0_0 u0_1 u0_2 u0_3 := by
  intro N n
  induction n with
  | zero => intro u0_0 u0_1 u0_2 u0_3; kernel_rfl
  | succ n ih =>
    intro u0_0 u0_1 u0_2 u0_3
    have e : loopAt (c37 N) a37 [1, 0, 1, 0] [] (codeOf Try.f37) (k37 N) (n + 1) (h37_0 u0_0 u0_1 u0_2 u0_3) = m_ticketlineref17_Keep_l0_b (fun w0 w1 w2 w3 => loopAt (c37 N) a37 [1, 0, 1, 0] [] (codeOf Try.f37) (k37 N) n (h37_0 w0 w1 w2 w3)) u0_0 u0_1 u0_2 u0_3 := by kernel_rfl
    refine e.trans ?_
    have es : (fun w0 w1 w2 w3 => loopAt (c37 N) a37 [1, 0, 1, 0] [] (codeOf Try.f37) (k37 N) n (h37_0 w0 w1 w2 w3)) = m_ticketlineref17_Keep_l0 N n := by
      funext w0 w1 w2 w3; exact ih w0 w1 w2 w3
    rw [es]
    rw [m_ticketlineref17_Keep_l0]
theorem ew37 : ∀ (N : Nat) (x : g37.ps.den), evalFn (c37 N) an37 Try.f37 (codeOf Try.f37) g37 x (fun p => p.1.1) = m_ticketlineref17_Keep_a (m_ticketlineref17_Keep_l0 N N) x.1 x.2.1 := by
  intro N
  intro x
  obtain ⟨x0, x1, xu⟩ := x
  have e : evalFn (c37 N) an37 Try.f37 (codeOf Try.f37) g37 (x0, x1, xu) (fun p => p.1.1) = m_ticketlineref17_Keep_a (fun w0 w1 w2 w3 => loopAt (c37 N) a37 [1, 0, 1, 0] [] (codeOf Try.f37) (k37 N) N (h37_0 w0 w1 w2 w3)) x0 x1 := by kernel_rfl
  refine e.trans ?_
  have e0 : (fun w0 w1 w2 w3 => loopAt (c37 N) a37 [1, 0, 1, 0] [] (codeOf Try.f37) (k37 N) N (h37_0 w0 w1 w2 w3)) = m_ticketlineref17_Keep_l0 N N := by
    funext w0 w1 w2 w3; exact t37_0 N N w0 w1 w2 w3
  rw [e0]
theorem ev37 : ∀ x : g37.ps.den, evalFn (c37 FUEL) an37 Try.f37 (codeOf Try.f37) g37 x (fun p => p.1.1) = g37.m x := fun x => ew37 FUEL x
theorem meets37 : Meets Try.prog 37 g37 :=
  meets_of (C := c37 FUEL) (ann := an37) (mkC_ok (gs := []) (is := []) (mt := mtL) tysOK elemOK trivial trivial mtOK FUEL) mixed Try.func37 (by kernel_rfl) (by kernel_rfl) (by kernel_rfl) (of_decide_eq_true (by kernel_rfl)) (fun p => p.1.1) (fun _ _ => ⟨rfl, rfl⟩) ev37
def c14 (N : Nat) : Cx := mkC tyL [(10, g10), (12, g12), (13, g13), (17, g17), (22, g22), (37, g37)] [] mtL N
def g14 : Sig := ⟨(.cons (.pure (.arr 128 (.int .u64))) (.cons (.pure (.int .i64)) .nl)), (.cons (.pure (.arr 128 (.int .u64))) (.cons (.pure (.arr 128 (.int .u64))) (.cons (.pure .str) (.cons (.pure (.int .i64)) .nl)))), ((List Int) × (List Int) × ByteArray × Int), fun x => m_ticketlineref17_Split x.1 x.2.1, fun _ y => (y.1, (y.2.1, (y.2.2.1, (y.2.2.2, ())))), fun _ y => ((), ((), ()))⟩
def an14 : Nat → Ann := mkA []
theorem ev14 : ∀ x : g14.ps.den, evalFn (c14 FUEL) an14 Try.f14 (codeOf Try.f14) g14 x (fun p => (p.1.1, p.1.2.1, p.1.2.2.1, p.1.2.2.2.1)) = g14.m x := by
  intro x
  obtain ⟨x0, x1, xu⟩ := x
  show _ = _
  kernel_rfl
theorem meets14 : Meets Try.prog 14 g14 :=
  meets_of (C := c14 FUEL) (ann := an14) (mkC_ok (gs := [(10, g10), (12, g12), (13, g13), (17, g17), (22, g22), (37, g37)]) (is := []) (mt := mtL) tysOK elemOK ⟨meets10, meets12, meets13, meets17, meets22, meets37, trivial⟩ trivial mtOK FUEL) mixed Try.func14 (by kernel_rfl) (by kernel_rfl) (by kernel_rfl) (of_decide_eq_true (by kernel_rfl)) (fun p => (p.1.1, p.1.2.1, p.1.2.2.1, p.1.2.2.2.1)) (fun _ _ => ⟨rfl, rfl⟩) ev14
def c4 (N : Nat) : Cx := mkC tyL [(8, g8), (9, g9), (14, g14), (15, g15)] [] mtL N
def g4 : Sig := ⟨(.cons (.pure (.pair (.int .i64) (.pair (.int .i64) (.pair .str (.pair .str (.pair (.sl (.pair .str (.pair .str .nl))) (.pair (.sl (.int .u8)) (.pair (.sl (.pair (.int .u8) (.pair (.int .u64) .nl))) .nl)))))))) (.cons (.pure (.int .i64)) .nl)), (.cons (.pure .bool) .nl), Bool, fun x => m_ticketlinelaw17_SplitHalves x.1 x.2.1, fun _ y => (y, ()), fun _ y => ((), ((), ()))⟩
def c5 (N : Nat) : Cx := mkC tyL [(9, g9), (16, g16), (17, g17), (18, g18)] [] mtL N
def g5 : Sig := ⟨(.cons (.pure (.int .i64)) (.cons (.pure (.int .i64)) (.cons (.pure (.int .i64)) (.cons (.pure .str) .nl)))), (.cons (.pure .bool) .nl), Bool, fun x => m_ticketlinelaw17_SplitRoots x.1 x.2.1 x.2.2.1 x.2.2.2.1, fun _ y => (y, ()), fun _ y => ((), ((), ((), ((), ()))))⟩
def c19 (N : Nat) : Cx := mkC tyL [(8, g8), (21, g21)] [] mtL N
def g19 : Sig := ⟨(.cons (.pure (.pair (.int .i64) (.pair (.int .i64) (.pair .str (.pair .str (.pair (.sl (.pair .str (.pair .str .nl))) (.pair (.sl (.int .u8)) (.pair (.sl (.pair (.int .u8) (.pair (.int .u64) .nl))) .nl)))))))) .nl), (.cons (.pure (.arr 128 (.int .u64))) (.cons (.pure .bool) .nl)), ((List Int) × Bool), fun x => m_ticketlineref14_Plan_Used x.1, fun _ y => (y.1, (y.2, ())), fun _ y => ((), ())⟩
def an19 : Nat → Ann := mkA []
theorem ev19 : ∀ x : g19.ps.den, evalFn (c19 FUEL) an19 Try.f19 (codeOf Try.f19) g19 x (fun p => (p.1.1, p.1.2.1)) = g19.m x := by
  intro x
  obtain ⟨x0, xu⟩ := x
  show _ = _
  kernel_rfl
theorem meets19 : Meets Try.prog 19 g19 :=
  meets_of (C := c19 FUEL) (ann := an19) (mkC_ok (gs := [(8, g8), (21, g21)]) (is := []) (mt := mtL) tysOK elemOK ⟨meets8, meets21, trivial⟩ trivial mtOK FUEL) mixed Try.func19 (by kernel_rfl) (by kernel_rfl) (by kernel_rfl) (of_decide_eq_true (by kernel_rfl)) (fun p => (p.1.1, p.1.2.1)) (fun _ _ => ⟨rfl, rfl⟩) ev19
def g24 : Sig := ⟨(.cons (.pure (.sl (.pair .str (.pair .str .nl)))) (.cons (.pure (.sl (.pair .str (.pair .str .nl)))) .nl)), (.cons (.pure .bool) .nl), Bool, fun x => m_ticketlineref14_Same x.1 x.2.1, fun _ y => (y, ()), fun _ y => ((), ((), ()))⟩
def c7 (N : Nat) : Cx := mkC tyL [(9, g9), (10, g10), (12, g12), (19, g19), (20, g20), (21, g21), (22, g22), (23, g23), (24, g24)] [] mtL N
def g7 : Sig := ⟨(.cons (.pure (.pair (.int .i64) (.pair (.int .i64) (.pair .str (.pair .str (.pair (.sl (.pair .str (.pair .str .nl))) (.pair (.sl (.int .u8)) (.pair (.sl (.pair (.int .u8) (.pair (.int .u64) .nl))) .nl)))))))) (.cons (.pure (.int .i64)) .nl)), (.cons (.pure .bool) .nl), Bool, fun x => m_ticketlinelaw17_SplitHolds x.1 x.2.1, fun _ y => (y, ()), fun _ y => ((), ((), ()))⟩
def c6 (N : Nat) : Cx := mkC tyL [(9, g9), (14, g14), (15, g15), (19, g19)] [] mtL N
def g6 : Sig := ⟨(.cons (.pure (.pair (.int .i64) (.pair (.int .i64) (.pair .str (.pair .str (.pair (.sl (.pair .str (.pair .str .nl))) (.pair (.sl (.int .u8)) (.pair (.sl (.pair (.int .u8) (.pair (.int .u64) .nl))) .nl)))))))) (.cons (.pure (.int .u16)) .nl)), (.cons (.pure .bool) .nl), Bool, fun x => m_ticketlinelaw17_SplitAgain x.1 x.2.1, fun _ y => (y, ()), fun _ y => ((), ((), ()))⟩
def an6 : Nat → Ann := mkA [(6, ⟨[8], [(7, (.arr 128 (.int .u64)))], [], false⟩)]
noncomputable def k6 (N : Nat) : Ex → St → Option Bool := finK (c6 N) Try.f6 g6 (.cons .top (.cons .top .nl)) (fun p => p.1.1)
def a6 : Nat → Ann := annP [] an6
def h6_0 (u0_0 : Int) (u0_1 : (List (List Int))) : St := ⟨72, [(7, .full 300007), (8, (.int .i64 u0_0))], [(300007, (.bk (.arr 128 (.int .u64)) u0_1))]⟩
theorem t6_0 : ∀ (N : Nat) (n : Nat) (u0_0 : Int) (u0_1 : (List (List Int))), loopAt (c6 N) a6 [1, 1, 1, 1, 0, 1, 0] [] (codeOf Try.f6) (k6 N) n (h6_0 u0_0 u0_1) = m_ticketlinelaw17_SplitAgain_l0 N n u0_0 u0_1 := by
  intro N n
  induction n with
  | zero => intro u0_0 u0_1; kernel_rfl
  | succ n ih =>
    intro u0_0 u0_1
    have e : loopAt (c6 N) a6 [1, 1, 1, 1, 0, 1, 0] [] (codeOf Try.f6) (k6 N) (n + 1) (h6_0 u0_0 u0_1) = m_ticketlinelaw17_SplitAgain_l0_b (fun w0 w1 => loopAt (c6 N) a6 [1, 1, 1, 1, 0, 1, 0] [] (codeOf Try.f6) (k6 N) n (h6_0 w0 w1)) u0_0 u0_1 := by kernel_rfl
    refine e.trans ?_
    have es : (fun w0 w1 => loopAt (c6 N) a6 [1, 1, 1, 1, 0, 1, 0] [] (codeOf Try.f6) (k6 N) n (h6_0 w0 w1)) = m_ticketlinelaw17_SplitAgain_l0 N n := by
      funext w0 w1; exact ih w0 w1
    rw [es]
    rw [m_ticketlinelaw17_SplitAgain_l0]
theorem ew6 : ∀ (N : Nat) (x : g6.ps.den), evalFn (c6 N) an6 Try.f6 (codeOf Try.f6) g6 x (fun p => p.1.1) = m_ticketlinelaw17_SplitAgain_a (m_ticketlinelaw17_SplitAgain_l0 N N) x.1 x.2.1 := by
  intro N
  intro x
  obtain ⟨x0, x1, xu⟩ := x
  have e : evalFn (c6 N) an6 Try.f6 (codeOf Try.f6) g6 (x0, x1, xu) (fun p => p.1.1) = m_ticketlinelaw17_SplitAgain_a (fun w0 w1 => loopAt (c6 N) a6 [1, 1, 1, 1, 0, 1, 0] [] (codeOf Try.f6) (k6 N) N (h6_0 w0 w1)) x0 x1 := by kernel_rfl
  refine e.trans ?_
  have e0 : (fun w0 w1 => loopAt (c6 N) a6 [1, 1, 1, 1, 0, 1, 0] [] (codeOf Try.f6) (k6 N) N (h6_0 w0 w1)) = m_ticketlinelaw17_SplitAgain_l0 N N := by
    funext w0 w1; exact t6_0 N N w0 w1
  rw [e0]
theorem ev6 : ∀ x : g6.ps.den, evalFn (c6 FUEL) an6 Try.f6 (codeOf Try.f6) g6 x (fun p => p.1.1) = g6.m x := fun x => ew6 FUEL x
theorem meets6 : Meets Try.prog 6 g6 :=
  meets_of (C := c6 FUEL) (ann := an6) (mkC_ok (gs := [(9, g9), (14, g14), (15, g15), (19, g19)]) (is := []) (mt := mtL) tysOK elemOK ⟨meets9, meets14, meets15, meets19, trivial⟩ trivial mtOK FUEL) mixed Try.func6 (by kernel_rfl) (by kernel_rfl) (by kernel_rfl) (of_decide_eq_true (by kernel_rfl)) (fun p => p.1.1) (fun _ _ => ⟨rfl, rfl⟩) ev6
end Go.Proofs.Ythbmjicmhikpgaa
