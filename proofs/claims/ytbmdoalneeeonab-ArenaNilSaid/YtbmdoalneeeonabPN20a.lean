/- A part of the proof of a statement of this seat: the functions keep their promises. No condition. -/
import Derived.Test.YtbmdoalneeeonabPN20H
set_option linter.unusedVariables false
set_option maxRecDepth 100000
namespace Go.Proofs.Ytbmdoalneeeonab
open Go Go.Ev Go.Ev.M Go.Proofs
def c28 (N : Nat) : Cx := mkC tyL [] [] mtL N
def g28 : Sig := ⟨(.cons (.ptr (.pure (.arr 128 (.int .u64)))) (.cons (.pure (.int .i64)) (.cons (.pure (.sl (.int .u64))) .nl))), .nl, (List Int), fun x => m_ticketlineref14_put x.1 x.2.1 x.2.2.1, fun _ y => (), fun _ y => (y, ((), ((), ())))⟩
def an28 : Nat → Ann := mkA [(1, ⟨[0, 1, 2, 6], [], [], false, []⟩)]
noncomputable def k28 (N : Nat) : Ex → St → Option (List Int) := finK (c28 N) Try.f28 g28 (.cons (.ref 100000 []) (.cons .top (.cons .top .nl))) (fun p => p.2.1)
def a28 : Nat → Ann := annP [100000] an28
def h28_0 (u0_0 : Int) (u0_1 : (List Int)) (u0_2 : Int) (u0_3 : (List Int)) : St := ⟨23, [(0, (.ref 100000 [])), (1, (.int .i64 u0_0)), (2, (.lst (.int .u64) u0_1)), (6, (.int .i64 u0_2))], [(100000, (.arr (.int .u64) 128 u0_3))]⟩
theorem t28_0 : ∀ (N : Nat) (n : Nat) (u0_0 : Int) (u0_1 : (List Int)) (u0_2 : Int) (u0_3 : (List Int)), loopAt (c28 N) a28 [1, 0] [] (codeOf Try.f28) (k28 N) n (h28_0 u0_0 u0_1 u0_2 u0_3) = m_ticketlineref14_put_l0 N n u0_0 u0_1 u0_2 u0_3 := by
  intro N n
  induction n with
  | zero => intro u0_0 u0_1 u0_2 u0_3; kernel_rfl
  | succ n ih =>
    intro u0_0 u0_1 u0_2 u0_3
    have e : loopAt (c28 N) a28 [1, 0] [] (codeOf Try.f28) (k28 N) (n + 1) (h28_0 u0_0 u0_1 u0_2 u0_3) = m_ticketlineref14_put_l0_b (fun w0 w1 w2 w3 => loopAt (c28 N) a28 [1, 0] [] (codeOf Try.f28) (k28 N) n (h28_0 w0 w1 w2 w3)) u0_0 u0_1 u0_2 u0_3 := by kernel_rfl
    refine e.trans ?_
    have es : (fun w0 w1 w2 w3 => loopAt (c28 N) a28 [1, 0] [] (codeOf Try.f28) (k28 N) n (h28_0 w0 w1 w2 w3)) = m_ticketlineref14_put_l0 N n := by
      funext w0 w1 w2 w3; exact ih w0 w1 w2 w3
    rw [es]
    rw [m_ticketlineref14_put_l0]
theorem ew28 : ∀ (N : Nat) (x : g28.ps.den), evalFn (c28 N) an28 Try.f28 (codeOf Try.f28) g28 x (fun p => p.2.1) = m_ticketlineref14_put_a (m_ticketlineref14_put_l0 N N) x.1 x.2.1 x.2.2.1 := by
  intro N
  intro x
  obtain ⟨x0, x1, x2, xu⟩ := x
  have e : evalFn (c28 N) an28 Try.f28 (codeOf Try.f28) g28 (x0, x1, x2, xu) (fun p => p.2.1) = m_ticketlineref14_put_a (fun w0 w1 w2 w3 => loopAt (c28 N) a28 [1, 0] [] (codeOf Try.f28) (k28 N) N (h28_0 w0 w1 w2 w3)) x0 x1 x2 := by kernel_rfl
  refine e.trans ?_
  have e0 : (fun w0 w1 w2 w3 => loopAt (c28 N) a28 [1, 0] [] (codeOf Try.f28) (k28 N) N (h28_0 w0 w1 w2 w3)) = m_ticketlineref14_put_l0 N N := by
    funext w0 w1 w2 w3; exact t28_0 N N w0 w1 w2 w3
  rw [e0]
theorem ev28 : ∀ x : g28.ps.den, evalFn (c28 FUEL) an28 Try.f28 (codeOf Try.f28) g28 x (fun p => p.2.1) = g28.m x := fun x => ew28 FUEL x
theorem meets28 : Meets Try.prog 28 g28 :=
  meets_of (C := c28 FUEL) (ann := an28) (mkC_ok (gs := []) (is := []) (mt := mtL) tysOK elemOK trivial trivial mtOK FUEL) mixed Try.func28 (by kernel_rfl) (by kernel_rfl) (by kernel_rfl) (of_decide_eq_true (by kernel_rfl)) (fun p => p.2.1) (fun _ _ => ⟨rfl, rfl⟩) ev28
def c49 (N : Nat) : Cx := mkC tyL [] [] mtL N
def g49 : Sig := ⟨(.cons (.pure (.int .i64)) .nl), (.cons (.pure (.int .i64)) .nl), Int, fun x => m_ticketlineref14_Words x.1, fun _ y => (y, ()), fun _ y => ((), ())⟩
def an49 : Nat → Ann := mkA []
theorem ev49 : ∀ x : g49.ps.den, evalFn (c49 FUEL) an49 Try.f49 (codeOf Try.f49) g49 x (fun p => p.1.1) = g49.m x := by
  intro x
  obtain ⟨x0, xu⟩ := x
  show _ = _
  kernel_rfl
theorem meets49 : Meets Try.prog 49 g49 :=
  meets_of (C := c49 FUEL) (ann := an49) (mkC_ok (gs := []) (is := []) (mt := mtL) tysOK elemOK trivial trivial mtOK FUEL) mixed Try.func49 (by kernel_rfl) (by kernel_rfl) (by kernel_rfl) (of_decide_eq_true (by kernel_rfl)) (fun p => p.1.1) (fun _ _ => ⟨rfl, rfl⟩) ev49
def c29 (N : Nat) : Cx := mkC tyL [(49, g49)] [] mtL N
def g29 : Sig := ⟨(.cons (.pure .str) .nl), (.cons (.own (.int .u64)) .nl), (List Int), fun x => m_ticketlineref14_Pack x.1, fun _ y => (y, ()), fun _ y => ((), ())⟩
def an29 : Nat → Ann := mkA [(3, ⟨[0, 3, 4], [], [9], false, []⟩)]
noncomputable def k29 (N : Nat) : Ex → St → Option (List Int) := finK (c29 N) Try.f29 g29 (.cons .top .nl) (fun p => p.1.1)
def a29 : Nat → Ann := annP [] an29
def h29_0 (u0_0 : ByteArray) (u0_1 : Int) (u0_2 : (List Int)) : St := ⟨38, [(0, (.str u0_0)), (3, (.full 9)), (4, (.int .i64 u0_1))], [(9, (.bk (.int .u64) u0_2))]⟩
theorem t29_0 : ∀ (N : Nat) (n : Nat) (u0_0 : ByteArray) (u0_1 : Int) (u0_2 : (List Int)), loopAt (c29 N) a29 [1, 1, 0, 1, 0] [] (codeOf Try.f29) (k29 N) n (h29_0 u0_0 u0_1 u0_2) = m_ticketlineref14_Pack_l0 N n u0_0 u0_1 u0_2 := by
  intro N n
  induction n with
  | zero => intro u0_0 u0_1 u0_2; kernel_rfl
  | succ n ih =>
    intro u0_0 u0_1 u0_2
    have e : loopAt (c29 N) a29 [1, 1, 0, 1, 0] [] (codeOf Try.f29) (k29 N) (n + 1) (h29_0 u0_0 u0_1 u0_2) = m_ticketlineref14_Pack_l0_b (fun w0 w1 w2 => loopAt (c29 N) a29 [1, 1, 0, 1, 0] [] (codeOf Try.f29) (k29 N) n (h29_0 w0 w1 w2)) u0_0 u0_1 u0_2 := by kernel_rfl
    refine e.trans ?_
    have es : (fun w0 w1 w2 => loopAt (c29 N) a29 [1, 1, 0, 1, 0] [] (codeOf Try.f29) (k29 N) n (h29_0 w0 w1 w2)) = m_ticketlineref14_Pack_l0 N n := by
      funext w0 w1 w2; exact ih w0 w1 w2
    rw [es]
    rw [m_ticketlineref14_Pack_l0]
theorem ew29 : ∀ (N : Nat) (x : g29.ps.den), evalFn (c29 N) an29 Try.f29 (codeOf Try.f29) g29 x (fun p => p.1.1) = m_ticketlineref14_Pack_a (m_ticketlineref14_Pack_l0 N N) x.1 := by
  intro N
  intro x
  obtain ⟨x0, xu⟩ := x
  have e : evalFn (c29 N) an29 Try.f29 (codeOf Try.f29) g29 (x0, xu) (fun p => p.1.1) = m_ticketlineref14_Pack_a (fun w0 w1 w2 => loopAt (c29 N) a29 [1, 1, 0, 1, 0] [] (codeOf Try.f29) (k29 N) N (h29_0 w0 w1 w2)) x0 := by kernel_rfl
  refine e.trans ?_
  have e0 : (fun w0 w1 w2 => loopAt (c29 N) a29 [1, 1, 0, 1, 0] [] (codeOf Try.f29) (k29 N) N (h29_0 w0 w1 w2)) = m_ticketlineref14_Pack_l0 N N := by
    funext w0 w1 w2; exact t29_0 N N w0 w1 w2
  rw [e0]
theorem ev29 : ∀ x : g29.ps.den, evalFn (c29 FUEL) an29 Try.f29 (codeOf Try.f29) g29 x (fun p => p.1.1) = g29.m x := fun x => ew29 FUEL x
theorem meets29 : Meets Try.prog 29 g29 :=
  meets_of (C := c29 FUEL) (ann := an29) (mkC_ok (gs := [(49, g49)]) (is := []) (mt := mtL) tysOK elemOK ⟨meets49, trivial⟩ trivial mtOK FUEL) mixed Try.func29 (by kernel_rfl) (by kernel_rfl) (by kernel_rfl) (of_decide_eq_true (by kernel_rfl)) (fun p => p.1.1) (fun _ _ => ⟨rfl, rfl⟩) ev29
def c8 (N : Nat) : Cx := mkC tyL [(28, g28), (29, g29)] [] mtL N
def g8 : Sig := ⟨(.cons (.pure (.int .i64)) (.cons (.pure .str) (.cons (.pure .str) .nl))), (.cons (.pure (.arr 128 (.int .u64))) .nl), (List Int), fun x => m_ticketlineref14_Empty x.1 x.2.1 x.2.2.1, fun _ y => (y, ()), fun _ y => ((), ((), ((), ())))⟩
def an8 : Nat → Ann := mkA []
theorem ev8 : ∀ x : g8.ps.den, evalFn (c8 FUEL) an8 Try.f8 (codeOf Try.f8) g8 x (fun p => p.1.1) = g8.m x := by
  intro x
  obtain ⟨x0, x1, x2, xu⟩ := x
  show _ = _
  kernel_rfl
theorem meets8 : Meets Try.prog 8 g8 :=
  meets_of (C := c8 FUEL) (ann := an8) (mkC_ok (gs := [(28, g28), (29, g29)]) (is := []) (mt := mtL) tysOK elemOK ⟨meets28, meets29, trivial⟩ trivial mtOK FUEL) mixed Try.func8 (by kernel_rfl) (by kernel_rfl) (by kernel_rfl) (of_decide_eq_true (by kernel_rfl)) (fun p => p.1.1) (fun _ _ => ⟨rfl, rfl⟩) ev8
def c44 (N : Nat) : Cx := mkC tyL [] [] mtL N
noncomputable def i44 : List AV → Nat → Pg AV := inlPg (c44 0) Try.f44 (codeOf Try.f44)
theorem inl44 : Inlines Try.prog 44 i44 := inlines (C := c44 0) (mkC_ok (gs := []) (is := []) (mt := mtL) tysOK elemOK trivial trivial mtOK 0) mixed Try.func44 (by kernel_rfl) (by kernel_rfl)
noncomputable def c21 (N : Nat) : Cx := mkC tyL [] [(44, i44)] mtL N
noncomputable def i21 : List AV → Nat → Pg AV := inlPg (c21 0) Try.f21 (codeOf Try.f21)
theorem inl21 : Inlines Try.prog 21 i21 := inlines (C := c21 0) (mkC_ok (gs := []) (is := [(44, i44)]) (mt := mtL) tysOK elemOK trivial ⟨inl44, trivial⟩ mtOK 0) mixed Try.func21 (by kernel_rfl) (by kernel_rfl)
def c22 (N : Nat) : Cx := mkC tyL [] [] mtL N
def g22 : Sig := ⟨(.cons (.pure (.int .i64)) (.cons (.pure (.int .i64)) .nl)), (.cons (.pure (.int .i64)) .nl), Int, fun x => m_arena_place x.1 x.2.1, fun _ y => (y, ()), fun _ y => ((), ((), ()))⟩
def an22 : Nat → Ann := mkA []
theorem ev22 : ∀ x : g22.ps.den, evalFn (c22 FUEL) an22 Try.f22 (codeOf Try.f22) g22 x (fun p => p.1.1) = g22.m x := by
  intro x
  obtain ⟨x0, x1, xu⟩ := x
  show _ = _
  kernel_rfl
theorem meets22 : Meets Try.prog 22 g22 :=
  meets_of (C := c22 FUEL) (ann := an22) (mkC_ok (gs := []) (is := []) (mt := mtL) tysOK elemOK trivial trivial mtOK FUEL) mixed Try.func22 (by kernel_rfl) (by kernel_rfl) (by kernel_rfl) (of_decide_eq_true (by kernel_rfl)) (fun p => p.1.1) (fun _ _ => ⟨rfl, rfl⟩) ev22
def c45 (N : Nat) : Cx := mkC tyL [] [] mtL N
def g45 : Sig := ⟨(.cons (.pure (.sl (.int .u64))) .nl), (.cons (.own (.int .u64)) .nl), (List Int), fun x => m_slices_Clone_uint64_uint64 x.1, fun _ y => (y, ()), fun _ y => ((), ())⟩
def an45 : Nat → Ann := mkA []
theorem ev45 : ∀ x : g45.ps.den, evalFn (c45 FUEL) an45 Try.f45 (codeOf Try.f45) g45 x (fun p => p.1.1) = g45.m x := by
  intro x
  obtain ⟨x0, xu⟩ := x
  show _ = _
  kernel_rfl
theorem meets45 : Meets Try.prog 45 g45 :=
  meets_of (C := c45 FUEL) (ann := an45) (mkC_ok (gs := []) (is := []) (mt := mtL) tysOK elemOK trivial trivial mtOK FUEL) mixed Try.func45 (by kernel_rfl) (by kernel_rfl) (by kernel_rfl) (of_decide_eq_true (by kernel_rfl)) (fun p => p.1.1) (fun _ _ => ⟨rfl, rfl⟩) ev45
noncomputable def c23 (N : Nat) : Cx := mkC tyL [(45, g45)] [(44, i44)] mtL N
def g23 : Sig := ⟨(.cons (.ptr (.cons (.own (.int .u64)) .nl)) .nl), (.cons (.ptr (.cons (.own (.int .u64)) .nl)) .nl), (((List Int) × Unit) × ((List Int) × Unit)), fun x => m_mem_Mem_Copy x.1, fun _ y => (y.1, ()), fun _ y => (y.2, ())⟩
def an23 : Nat → Ann := mkA []
theorem ev23 : ∀ x : g23.ps.den, evalFn (c23 FUEL) an23 Try.f23 (codeOf Try.f23) g23 x (fun p => (p.1.1, p.2.1)) = g23.m x := by
  intro x
  obtain ⟨x0, xu⟩ := x
  show _ = _
  kernel_rfl
theorem meets23 : Meets Try.prog 23 g23 :=
  meets_of (C := c23 FUEL) (ann := an23) (mkC_ok (gs := [(45, g45)]) (is := [(44, i44)]) (mt := mtL) tysOK elemOK ⟨meets45, trivial⟩ ⟨inl44, trivial⟩ mtOK FUEL) mixed Try.func23 (by kernel_rfl) (by kernel_rfl) (by kernel_rfl) (of_decide_eq_true (by kernel_rfl)) (fun p => (p.1.1, p.2.1)) (fun _ _ => ⟨rfl, rfl⟩) ev23
noncomputable def c47 (N : Nat) : Cx := mkC tyL [] [(44, i44)] mtL N
def g47 : Sig := ⟨(.cons (.ptr (.cons (.own (.int .u64)) .nl)) (.cons (.pure (.pair (.int .i64) (.pair (.int .i64) (.pair (.int .u64) (.pair (.int .u64) .nl))))) .nl)), (.cons (.pure (.pair (.int .i64) (.pair (.int .i64) (.pair (.int .u64) (.pair (.int .u64) .nl))))) (.cons (.pure (.int .i64)) .nl)), ((Int × (Int × (Int × (Int × Unit)))) × Int × ((List Int) × Unit)), fun x => m_mem_Mem_Do x.1 x.2.1, fun _ y => (y.1, (y.2.1, ())), fun _ y => (y.2.2, ((), ()))⟩
def an47 : Nat → Ann := mkA []
theorem ev47 : ∀ x : g47.ps.den, evalFn (c47 FUEL) an47 Try.f47 (codeOf Try.f47) g47 x (fun p => (p.1.1, p.1.2.1, p.2.1)) = g47.m x := by
  intro x
  obtain ⟨x0, x1, xu⟩ := x
  show _ = _
  kernel_rfl
theorem meets47 : Meets Try.prog 47 g47 :=
  meets_of (C := c47 FUEL) (ann := an47) (mkC_ok (gs := []) (is := [(44, i44)]) (mt := mtL) tysOK elemOK trivial ⟨inl44, trivial⟩ mtOK FUEL) mixed Try.func47 (by kernel_rfl) (by kernel_rfl) (by kernel_rfl) (of_decide_eq_true (by kernel_rfl)) (fun p => (p.1.1, p.1.2.1, p.2.1)) (fun _ _ => ⟨rfl, rfl⟩) ev47
def c46 (N : Nat) : Cx := mkC tyL [(47, g47)] [] mtL N
def g46 : Sig := ⟨(.cons (.ptr (.cons (.own (.int .u64)) .nl)) (.cons (.pure (.int .i64)) (.cons (.pure (.int .u64)) .nl))), (.cons (.pure (.int .i64)) .nl), (Int × ((List Int) × Unit)), fun x => m_mem_Mem_Store x.1 x.2.1 x.2.2.1, fun _ y => (y.1, ()), fun _ y => (y.2, ((), ((), ())))⟩
def an46 : Nat → Ann := mkA []
theorem ev46 : ∀ x : g46.ps.den, evalFn (c46 FUEL) an46 Try.f46 (codeOf Try.f46) g46 x (fun p => (p.1.1, p.2.1)) = g46.m x := by
  intro x
  obtain ⟨x0, x1, x2, xu⟩ := x
  show _ = _
  kernel_rfl
theorem meets46 : Meets Try.prog 46 g46 :=
  meets_of (C := c46 FUEL) (ann := an46) (mkC_ok (gs := [(47, g47)]) (is := []) (mt := mtL) tysOK elemOK ⟨meets47, trivial⟩ trivial mtOK FUEL) mixed Try.func46 (by kernel_rfl) (by kernel_rfl) (by kernel_rfl) (of_decide_eq_true (by kernel_rfl)) (fun p => (p.1.1, p.2.1)) (fun _ _ => ⟨rfl, rfl⟩) ev46
def c24 (N : Nat) : Cx := mkC tyL [(46, g46)] [] mtL N
noncomputable def i24 : List AV → Nat → Pg AV := inlPg (c24 0) Try.f24 (codeOf Try.f24)
theorem inl24 : Inlines Try.prog 24 i24 := inlines (C := c24 0) (mkC_ok (gs := [(46, g46)]) (is := []) (mt := mtL) tysOK elemOK ⟨meets46, trivial⟩ trivial mtOK 0) mixed Try.func24 (by kernel_rfl) (by kernel_rfl)
noncomputable def c4 (N : Nat) : Cx := mkC tyL [(22, g22), (23, g23)] [(21, i21), (24, i24)] mtL N
def g4 : Sig := ⟨(.cons (.ptr (.cons (.own (.int .u64)) .nl)) (.cons (.pure (.int .i64)) .nl)), (.cons (.nptr (.cons (.cons (.ptr (.cons (.own (.int .u64)) .nl)) .nl) .nl)) (.cons (.pure (.int .i64)) .nl)), ((Option ((((List Int) × Unit) × Unit) × Unit)) × Int × ((List Int) × Unit)), fun x => m_arena_Format x.1 x.2.1, fun _ y => (y.1, (y.2.1, ())), fun _ y => (y.2.2, ((), ()))⟩
def an4 : Nat → Ann := mkA [(7, ⟨[1, 6, 33, 34], [], [6, 200928, 200929], false, [(200929, [.fld 0], (.own (.int .u64)), 2003214864)]⟩), (15, ⟨[1, 6, 8], [], [6, 200928, 200929], false, [(200929, [.fld 0], (.own (.int .u64)), 2003214864)]⟩)]
noncomputable def k4 (N : Nat) : Ex → St → Option ((Option ((((List Int) × Unit) × Unit) × Unit)) × Int × ((List Int) × Unit)) := finK (c4 N) Try.f4 g4 (.cons (.ref 100000 []) (.cons .top .nl)) (fun p => (p.1.1, p.1.2.1, p.2.1))
def a4 : Nat → Ann := annP [100000] an4
def h4_1 (u1_0 : Int) (u1_1 : Int) (u1_2 : (List Int)) (u1_3 : (List Int)) : St := ⟨64, [(1, (.int .i64 u1_0)), (6, (.ref 6 [])), (8, (.int .i64 u1_1))], [(100000, (.cons (.full 200928) .nl)), (6, (.cons (.ref 200929 []) .nl)), (200928, (.bk (.int .u64) u1_2)), (200929, (.cons (.full 2003214864) .nl)), (2003214864, (.bk (.int .u64) u1_3))]⟩
def h4_0 (u0_0 : Int) (u0_1 : Int) (u0_2 : Int) (u0_3 : (List Int)) (u0_4 : (List Int)) : St := ⟨64, [(1, (.int .i64 u0_0)), (6, (.ref 6 [])), (33, (.int .i64 u0_1)), (34, (.int .i64 u0_2))], [(100000, (.cons (.full 200928) .nl)), (6, (.cons (.ref 200929 []) .nl)), (200928, (.bk (.int .u64) u0_3)), (200929, (.cons (.full 2003214864) .nl)), (2003214864, (.bk (.int .u64) u0_4))]⟩
theorem t4_1 : ∀ (N : Nat) (n : Nat) (u1_0 : Int) (u1_1 : Int) (u1_2 : (List Int)) (u1_3 : (List Int)), loopAt (c4 N) a4 [1, 1, 1, 1, 1, 1, 1, 0, 1, 0] [] (codeOf Try.f4) (k4 N) n (h4_1 u1_0 u1_1 u1_2 u1_3) = m_arena_Format_l1 N n u1_0 u1_1 u1_2 u1_3 := by
  intro N n
  induction n with
  | zero => intro u1_0 u1_1 u1_2 u1_3; kernel_rfl
  | succ n ih =>
    intro u1_0 u1_1 u1_2 u1_3
    have e : loopAt (c4 N) a4 [1, 1, 1, 1, 1, 1, 1, 0, 1, 0] [] (codeOf Try.f4) (k4 N) (n + 1) (h4_1 u1_0 u1_1 u1_2 u1_3) = m_arena_Format_l1_b (fun w0 w1 w2 w3 => loopAt (c4 N) a4 [1, 1, 1, 1, 1, 1, 1, 0, 1, 0] [] (codeOf Try.f4) (k4 N) n (h4_1 w0 w1 w2 w3)) u1_0 u1_1 u1_2 u1_3 := by kernel_rfl
    refine e.trans ?_
    have es : (fun w0 w1 w2 w3 => loopAt (c4 N) a4 [1, 1, 1, 1, 1, 1, 1, 0, 1, 0] [] (codeOf Try.f4) (k4 N) n (h4_1 w0 w1 w2 w3)) = m_arena_Format_l1 N n := by
      funext w0 w1 w2 w3; exact ih w0 w1 w2 w3
    rw [es]
    rw [m_arena_Format_l1]
theorem t4_0 : ∀ (N : Nat) (n : Nat) (u0_0 : Int) (u0_1 : Int) (u0_2 : Int) (u0_3 : (List Int)) (u0_4 : (List Int)), loopAt (c4 N) a4 [1, 1, 1, 0, 1, 0] [] (codeOf Try.f4) (k4 N) n (h4_0 u0_0 u0_1 u0_2 u0_3 u0_4) = m_arena_Format_l0 N n u0_0 u0_1 u0_2 u0_3 u0_4 := by
  intro N n
  induction n with
  | zero => intro u0_0 u0_1 u0_2 u0_3 u0_4; kernel_rfl
  | succ n ih =>
    intro u0_0 u0_1 u0_2 u0_3 u0_4
    have e : loopAt (c4 N) a4 [1, 1, 1, 0, 1, 0] [] (codeOf Try.f4) (k4 N) (n + 1) (h4_0 u0_0 u0_1 u0_2 u0_3 u0_4) = m_arena_Format_l0_b (fun w0 w1 w2 w3 w4 => loopAt (c4 N) a4 [1, 1, 1, 0, 1, 0] [] (codeOf Try.f4) (k4 N) n (h4_0 w0 w1 w2 w3 w4)) (fun w0 w1 w2 w3 => loopAt (c4 N) a4 [1, 1, 1, 1, 1, 1, 1, 0, 1, 0] [] (codeOf Try.f4) (k4 N) N (h4_1 w0 w1 w2 w3)) u0_0 u0_1 u0_2 u0_3 u0_4 := by kernel_rfl
    refine e.trans ?_
    have e1 : (fun w0 w1 w2 w3 => loopAt (c4 N) a4 [1, 1, 1, 1, 1, 1, 1, 0, 1, 0] [] (codeOf Try.f4) (k4 N) N (h4_1 w0 w1 w2 w3)) = m_arena_Format_l1 N N := by
      funext w0 w1 w2 w3; exact t4_1 N N w0 w1 w2 w3
    rw [e1]
    have es : (fun w0 w1 w2 w3 w4 => loopAt (c4 N) a4 [1, 1, 1, 0, 1, 0] [] (codeOf Try.f4) (k4 N) n (h4_0 w0 w1 w2 w3 w4)) = m_arena_Format_l0 N n := by
      funext w0 w1 w2 w3 w4; exact ih w0 w1 w2 w3 w4
    rw [es]
    rw [m_arena_Format_l0]
theorem ew4 : ∀ (N : Nat) (x : g4.ps.den), evalFn (c4 N) an4 Try.f4 (codeOf Try.f4) g4 x (fun p => (p.1.1, p.1.2.1, p.2.1)) = m_arena_Format_a (m_arena_Format_l0 N N) x.1 x.2.1 := by
  intro N
  intro x
  obtain ⟨x0, x1, xu⟩ := x
  have e : evalFn (c4 N) an4 Try.f4 (codeOf Try.f4) g4 (x0, x1, xu) (fun p => (p.1.1, p.1.2.1, p.2.1)) = m_arena_Format_a (fun w0 w1 w2 w3 w4 => loopAt (c4 N) a4 [1, 1, 1, 0, 1, 0] [] (codeOf Try.f4) (k4 N) N (h4_0 w0 w1 w2 w3 w4)) x0 x1 := by kernel_rfl
  refine e.trans ?_
  have e0 : (fun w0 w1 w2 w3 w4 => loopAt (c4 N) a4 [1, 1, 1, 0, 1, 0] [] (codeOf Try.f4) (k4 N) N (h4_0 w0 w1 w2 w3 w4)) = m_arena_Format_l0 N N := by
    funext w0 w1 w2 w3 w4; exact t4_0 N N w0 w1 w2 w3 w4
  rw [e0]
theorem ev4 : ∀ x : g4.ps.den, evalFn (c4 FUEL) an4 Try.f4 (codeOf Try.f4) g4 x (fun p => (p.1.1, p.1.2.1, p.2.1)) = g4.m x := fun x => ew4 FUEL x
theorem meets4 : Meets Try.prog 4 g4 :=
  meets_of (C := c4 FUEL) (ann := an4) (mkC_ok (gs := [(22, g22), (23, g23)]) (is := [(21, i21), (24, i24)]) (mt := mtL) tysOK elemOK ⟨meets22, meets23, trivial⟩ ⟨inl21, inl24, trivial⟩ mtOK FUEL) mixed Try.func4 (by kernel_rfl) (by kernel_rfl) (by kernel_rfl) (of_decide_eq_true (by kernel_rfl)) (fun p => (p.1.1, p.1.2.1, p.2.1)) (fun _ _ => ⟨rfl, rfl⟩) ev4
def c25 (N : Nat) : Cx := mkC tyL [(47, g47)] [] mtL N
def g25 : Sig := ⟨(.cons (.ptr (.cons (.own (.int .u64)) .nl)) (.cons (.pure (.int .i64)) .nl)), (.cons (.pure (.int .u64)) (.cons (.pure (.int .i64)) .nl)), (Int × Int × ((List Int) × Unit)), fun x => m_mem_Mem_Load x.1 x.2.1, fun _ y => (y.1, (y.2.1, ())), fun _ y => (y.2.2, ((), ()))⟩
def an25 : Nat → Ann := mkA []
theorem ev25 : ∀ x : g25.ps.den, evalFn (c25 FUEL) an25 Try.f25 (codeOf Try.f25) g25 x (fun p => (p.1.1, p.1.2.1, p.2.1)) = g25.m x := by
  intro x
  obtain ⟨x0, x1, xu⟩ := x
  show _ = _
  kernel_rfl
theorem meets25 : Meets Try.prog 25 g25 :=
  meets_of (C := c25 FUEL) (ann := an25) (mkC_ok (gs := [(47, g47)]) (is := []) (mt := mtL) tysOK elemOK ⟨meets47, trivial⟩ trivial mtOK FUEL) mixed Try.func25 (by kernel_rfl) (by kernel_rfl) (by kernel_rfl) (of_decide_eq_true (by kernel_rfl)) (fun p => (p.1.1, p.1.2.1, p.2.1)) (fun _ _ => ⟨rfl, rfl⟩) ev25
def c38 (N : Nat) : Cx := mkC tyL [(25, g25)] [] mtL N
noncomputable def i38 : List AV → Nat → Pg AV := inlPg (c38 0) Try.f38 (codeOf Try.f38)
theorem inl38 : Inlines Try.prog 38 i38 := inlines (C := c38 0) (mkC_ok (gs := [(25, g25)]) (is := []) (mt := mtL) tysOK elemOK ⟨meets25, trivial⟩ trivial mtOK 0) mixed Try.func38 (by kernel_rfl) (by kernel_rfl)
def c37 (N : Nat) : Cx := mkC tyL [] [] mtL N
noncomputable def i37 : List AV → Nat → Pg AV := inlPg (c37 0) Try.f37 (codeOf Try.f37)
theorem inl37 : Inlines Try.prog 37 i37 := inlines (C := c37 0) (mkC_ok (gs := []) (is := []) (mt := mtL) tysOK elemOK trivial trivial mtOK 0) mixed Try.func37 (by kernel_rfl) (by kernel_rfl)
noncomputable def c40 (N : Nat) : Cx := mkC tyL [] [(38, i38)] mtL N
def g40 : Sig := ⟨(.cons (.ptr (.cons (.cons (.ptr (.cons (.own (.int .u64)) .nl)) .nl) .nl)) .nl), (.cons (.pure (.int .i64)) .nl), (Int × ((((List Int) × Unit) × Unit) × Unit)), fun x => m_arena_Arena_pages x.1, fun _ y => (y.1, ()), fun _ y => (y.2, ())⟩
def an40 : Nat → Ann := mkA []
theorem ev40 : ∀ x : g40.ps.den, evalFn (c40 FUEL) an40 Try.f40 (codeOf Try.f40) g40 x (fun p => (p.1.1, p.2.1)) = g40.m x := by
  intro x
  obtain ⟨x0, xu⟩ := x
  show _ = _
  kernel_rfl
theorem meets40 : Meets Try.prog 40 g40 :=
  meets_of (C := c40 FUEL) (ann := an40) (mkC_ok (gs := []) (is := [(38, i38)]) (mt := mtL) tysOK elemOK trivial ⟨inl38, trivial⟩ mtOK FUEL) mixed Try.func40 (by kernel_rfl) (by kernel_rfl) (by kernel_rfl) (of_decide_eq_true (by kernel_rfl)) (fun p => (p.1.1, p.2.1)) (fun _ _ => ⟨rfl, rfl⟩) ev40
noncomputable def c52 (N : Nat) : Cx := mkC tyL [(22, g22)] [(38, i38)] mtL N
def g52 : Sig := ⟨(.cons (.ptr (.cons (.cons (.ptr (.cons (.own (.int .u64)) .nl)) .nl) .nl)) (.cons (.pure (.int .i64)) .nl)), (.cons (.pure (.int .u64)) .nl), (Int × ((((List Int) × Unit) × Unit) × Unit)), fun x => m_arena_Arena_kind x.1 x.2.1, fun _ y => (y.1, ()), fun _ y => (y.2, ((), ()))⟩
def an52 : Nat → Ann := mkA []
theorem ev52 : ∀ x : g52.ps.den, evalFn (c52 FUEL) an52 Try.f52 (codeOf Try.f52) g52 x (fun p => (p.1.1, p.2.1)) = g52.m x := by
  intro x
  obtain ⟨x0, x1, xu⟩ := x
  show _ = _
  kernel_rfl
theorem meets52 : Meets Try.prog 52 g52 :=
  meets_of (C := c52 FUEL) (ann := an52) (mkC_ok (gs := [(22, g22)]) (is := [(38, i38)]) (mt := mtL) tysOK elemOK ⟨meets22, trivial⟩ ⟨inl38, trivial⟩ mtOK FUEL) mixed Try.func52 (by kernel_rfl) (by kernel_rfl) (by kernel_rfl) (of_decide_eq_true (by kernel_rfl)) (fun p => (p.1.1, p.2.1)) (fun _ _ => ⟨rfl, rfl⟩) ev52
def c41 (N : Nat) : Cx := mkC tyL [(52, g52)] [] mtL N
def g41 : Sig := ⟨(.cons (.ptr (.cons (.cons (.ptr (.cons (.own (.int .u64)) .nl)) .nl) .nl)) (.cons (.pure (.int .i64)) .nl)), (.cons (.pure .bool) .nl), (Bool × ((((List Int) × Unit) × Unit) × Unit)), fun x => m_arena_Arena_used x.1 x.2.1, fun _ y => (y.1, ()), fun _ y => (y.2, ((), ()))⟩
def an41 : Nat → Ann := mkA []
theorem ev41 : ∀ x : g41.ps.den, evalFn (c41 FUEL) an41 Try.f41 (codeOf Try.f41) g41 x (fun p => (p.1.1, p.2.1)) = g41.m x := by
  intro x
  obtain ⟨x0, x1, xu⟩ := x
  show _ = _
  kernel_rfl
theorem meets41 : Meets Try.prog 41 g41 :=
  meets_of (C := c41 FUEL) (ann := an41) (mkC_ok (gs := [(52, g52)]) (is := []) (mt := mtL) tysOK elemOK ⟨meets52, trivial⟩ trivial mtOK FUEL) mixed Try.func41 (by kernel_rfl) (by kernel_rfl) (by kernel_rfl) (of_decide_eq_true (by kernel_rfl)) (fun p => (p.1.1, p.2.1)) (fun _ _ => ⟨rfl, rfl⟩) ev41
noncomputable def c39 (N : Nat) : Cx := mkC tyL [(40, g40), (41, g41), (52, g52)] [(37, i37)] mtL N
def g39 : Sig := ⟨(.cons (.ptr (.cons (.cons (.ptr (.cons (.own (.int .u64)) .nl)) .nl) .nl)) .nl), (.cons (.pure (.int .i64)) (.cons (.pure (.int .i64)) (.cons (.pure (.int .i64)) (.cons (.pure (.int .i64)) .nl)))), (Int × Int × Int × Int × ((((List Int) × Unit) × Unit) × Unit)), fun x => m_arena_Arena_Counts x.1, fun _ y => (y.1, (y.2.1, (y.2.2.1, (y.2.2.2.1, ())))), fun _ y => (y.2.2.2.2, ())⟩
def an39 : Nat → Ann := mkA [(4, ⟨[0, 3, 4, 5, 6], [], [], false, [(100000, [.fld 0, .fld 0], (.ptr (.cons (.own (.int .u64)) .nl)), 2001600000)]⟩)]
noncomputable def k39 (N : Nat) : Ex → St → Option (Int × Int × Int × Int × ((((List Int) × Unit) × Unit) × Unit)) := finK (c39 N) Try.f39 g39 (.cons (.ref 100000 []) .nl) (fun p => (p.1.1, p.1.2.1, p.1.2.2.1, p.1.2.2.2.1, p.2.1))
def a39 : Nat → Ann := annP [100000] an39
def h39_0 (u0_0 : Int) (u0_1 : Int) (u0_2 : Int) (u0_3 : Int) (u0_4 : (List Int)) : St := ⟨40, [(0, (.ref 100000 [])), (3, (.int .i64 u0_0)), (4, (.int .i64 u0_1)), (5, (.int .i64 u0_2)), (6, (.int .i64 u0_3))], [(100000, (.cons (.cons (.ref 2001600000 []) .nl) .nl)), (2001600000, (.cons (.full 2001600001) .nl)), (2001600001, (.bk (.int .u64) u0_4))]⟩
theorem t39_0 : ∀ (N : Nat) (n : Nat) (u0_0 : Int) (u0_1 : Int) (u0_2 : Int) (u0_3 : Int) (u0_4 : (List Int)), loopAt (c39 N) a39 [1, 1, 0, 1, 0] [] (codeOf Try.f39) (k39 N) n (h39_0 u0_0 u0_1 u0_2 u0_3 u0_4) = m_arena_Arena_Counts_l0 N n u0_0 u0_1 u0_2 u0_3 u0_4 := by
  intro N n
  induction n with
  | zero => intro u0_0 u0_1 u0_2 u0_3 u0_4; kernel_rfl
  | succ n ih =>
    intro u0_0 u0_1 u0_2 u0_3 u0_4
    have e : loopAt (c39 N) a39 [1, 1, 0, 1, 0] [] (codeOf Try.f39) (k39 N) (n + 1) (h39_0 u0_0 u0_1 u0_2 u0_3 u0_4) = m_arena_Arena_Counts_l0_b (fun w0 w1 w2 w3 w4 => loopAt (c39 N) a39 [1, 1, 0, 1, 0] [] (codeOf Try.f39) (k39 N) n (h39_0 w0 w1 w2 w3 w4)) u0_0 u0_1 u0_2 u0_3 u0_4 := by kernel_rfl
    refine e.trans ?_
    have es : (fun w0 w1 w2 w3 w4 => loopAt (c39 N) a39 [1, 1, 0, 1, 0] [] (codeOf Try.f39) (k39 N) n (h39_0 w0 w1 w2 w3 w4)) = m_arena_Arena_Counts_l0 N n := by
      funext w0 w1 w2 w3 w4; exact ih w0 w1 w2 w3 w4
    rw [es]
    rw [m_arena_Arena_Counts_l0]
theorem ew39 : ∀ (N : Nat) (x : g39.ps.den), evalFn (c39 N) an39 Try.f39 (codeOf Try.f39) g39 x (fun p => (p.1.1, p.1.2.1, p.1.2.2.1, p.1.2.2.2.1, p.2.1)) = m_arena_Arena_Counts_a (m_arena_Arena_Counts_l0 N N) x.1 := by
  intro N
  intro x
  obtain ⟨x0, xu⟩ := x
  have e : evalFn (c39 N) an39 Try.f39 (codeOf Try.f39) g39 (x0, xu) (fun p => (p.1.1, p.1.2.1, p.1.2.2.1, p.1.2.2.2.1, p.2.1)) = m_arena_Arena_Counts_a (fun w0 w1 w2 w3 w4 => loopAt (c39 N) a39 [1, 1, 0, 1, 0] [] (codeOf Try.f39) (k39 N) N (h39_0 w0 w1 w2 w3 w4)) x0 := by kernel_rfl
  refine e.trans ?_
  have e0 : (fun w0 w1 w2 w3 w4 => loopAt (c39 N) a39 [1, 1, 0, 1, 0] [] (codeOf Try.f39) (k39 N) N (h39_0 w0 w1 w2 w3 w4)) = m_arena_Arena_Counts_l0 N N := by
    funext w0 w1 w2 w3 w4; exact t39_0 N N w0 w1 w2 w3 w4
  rw [e0]
theorem ev39 : ∀ x : g39.ps.den, evalFn (c39 FUEL) an39 Try.f39 (codeOf Try.f39) g39 x (fun p => (p.1.1, p.1.2.1, p.1.2.2.1, p.1.2.2.2.1, p.2.1)) = g39.m x := fun x => ew39 FUEL x
theorem meets39 : Meets Try.prog 39 g39 :=
  meets_of (C := c39 FUEL) (ann := an39) (mkC_ok (gs := [(40, g40), (41, g41), (52, g52)]) (is := [(37, i37)]) (mt := mtL) tysOK elemOK ⟨meets40, meets41, meets52, trivial⟩ ⟨inl37, trivial⟩ mtOK FUEL) mixed Try.func39 (by kernel_rfl) (by kernel_rfl) (by kernel_rfl) (of_decide_eq_true (by kernel_rfl)) (fun p => (p.1.1, p.1.2.1, p.1.2.2.1, p.1.2.2.2.1, p.2.1)) (fun _ _ => ⟨rfl, rfl⟩) ev39
noncomputable def c48 (N : Nat) : Cx := mkC tyL [(22, g22), (40, g40), (52, g52)] [(38, i38)] mtL N
def g48 : Sig := ⟨(.cons (.ptr (.cons (.cons (.ptr (.cons (.own (.int .u64)) .nl)) .nl) .nl)) (.cons (.pure (.int .i64)) (.cons (.pure (.int .u64)) .nl))), (.cons (.own (.int .i64)) (.cons (.pure .bool) .nl)), ((List Int) × Bool × ((((List Int) × Unit) × Unit) × Unit)), fun x => m_arena_Arena_list x.1 x.2.1 x.2.2.1, fun _ y => (y.1, (y.2.1, ())), fun _ y => (y.2.2, ((), ((), ())))⟩
def an48 : Nat → Ann := mkA [(3, ⟨[0, 2, 9], [(8, (.own (.int .i64)), 300008)], [], false, [(100000, [.fld 0, .fld 0], (.ptr (.cons (.own (.int .u64)) .nl)), 2001600000)]⟩)]
noncomputable def k48 (N : Nat) : Ex → St → Option ((List Int) × Bool × ((((List Int) × Unit) × Unit) × Unit)) := finK (c48 N) Try.f48 g48 (.cons (.ref 100000 []) (.cons .top (.cons .top .nl))) (fun p => (p.1.1, p.1.2.1, p.2.1))
def a48 : Nat → Ann := annP [100000] an48
def h48_0 (u0_0 : Int) (u0_1 : Int) (u0_2 : (List Int)) (u0_3 : (List Int)) : St := ⟨52, [(8, .full 300008), (0, (.ref 100000 [])), (2, (.int .u64 u0_0)), (9, (.int .u64 u0_1))], [(100000, (.cons (.cons (.ref 2001600000 []) .nl) .nl)), (300008, (.bk (.int .i64) u0_2)), (2001600000, (.cons (.full 2001600001) .nl)), (2001600001, (.bk (.int .u64) u0_3))]⟩
theorem t48_0 : ∀ (N : Nat) (n : Nat) (u0_0 : Int) (u0_1 : Int) (u0_2 : (List Int)) (u0_3 : (List Int)), loopAt (c48 N) a48 [1, 1, 1, 0, 0] [] (codeOf Try.f48) (k48 N) n (h48_0 u0_0 u0_1 u0_2 u0_3) = m_arena_Arena_list_l0 N n u0_0 u0_1 u0_2 u0_3 := by
  intro N n
  induction n with
  | zero => intro u0_0 u0_1 u0_2 u0_3; kernel_rfl
  | succ n ih =>
    intro u0_0 u0_1 u0_2 u0_3
    have e : loopAt (c48 N) a48 [1, 1, 1, 0, 0] [] (codeOf Try.f48) (k48 N) (n + 1) (h48_0 u0_0 u0_1 u0_2 u0_3) = m_arena_Arena_list_l0_b (fun w0 w1 w2 w3 => loopAt (c48 N) a48 [1, 1, 1, 0, 0] [] (codeOf Try.f48) (k48 N) n (h48_0 w0 w1 w2 w3)) u0_0 u0_1 u0_2 u0_3 := by kernel_rfl
    refine e.trans ?_
    have es : (fun w0 w1 w2 w3 => loopAt (c48 N) a48 [1, 1, 1, 0, 0] [] (codeOf Try.f48) (k48 N) n (h48_0 w0 w1 w2 w3)) = m_arena_Arena_list_l0 N n := by
      funext w0 w1 w2 w3; exact ih w0 w1 w2 w3
    rw [es]
    rw [m_arena_Arena_list_l0]
theorem ew48 : ∀ (N : Nat) (x : g48.ps.den), evalFn (c48 N) an48 Try.f48 (codeOf Try.f48) g48 x (fun p => (p.1.1, p.1.2.1, p.2.1)) = m_arena_Arena_list_a (m_arena_Arena_list_l0 N N) x.1 x.2.1 x.2.2.1 := by
  intro N
  intro x
  obtain ⟨x0, x1, x2, xu⟩ := x
  have e : evalFn (c48 N) an48 Try.f48 (codeOf Try.f48) g48 (x0, x1, x2, xu) (fun p => (p.1.1, p.1.2.1, p.2.1)) = m_arena_Arena_list_a (fun w0 w1 w2 w3 => loopAt (c48 N) a48 [1, 1, 1, 0, 0] [] (codeOf Try.f48) (k48 N) N (h48_0 w0 w1 w2 w3)) x0 x1 x2 := by kernel_rfl
  refine e.trans ?_
  have e0 : (fun w0 w1 w2 w3 => loopAt (c48 N) a48 [1, 1, 1, 0, 0] [] (codeOf Try.f48) (k48 N) N (h48_0 w0 w1 w2 w3)) = m_arena_Arena_list_l0 N N := by
    funext w0 w1 w2 w3; exact t48_0 N N w0 w1 w2 w3
  rw [e0]
theorem ev48 : ∀ x : g48.ps.den, evalFn (c48 FUEL) an48 Try.f48 (codeOf Try.f48) g48 x (fun p => (p.1.1, p.1.2.1, p.2.1)) = g48.m x := fun x => ew48 FUEL x
theorem meets48 : Meets Try.prog 48 g48 :=
  meets_of (C := c48 FUEL) (ann := an48) (mkC_ok (gs := [(22, g22), (40, g40), (52, g52)]) (is := [(38, i38)]) (mt := mtL) tysOK elemOK ⟨meets22, meets40, meets52, trivial⟩ ⟨inl38, trivial⟩ mtOK FUEL) mixed Try.func48 (by kernel_rfl) (by kernel_rfl) (by kernel_rfl) (of_decide_eq_true (by kernel_rfl)) (fun p => (p.1.1, p.1.2.1, p.2.1)) (fun _ _ => ⟨rfl, rfl⟩) ev48
noncomputable def c26 (N : Nat) : Cx := mkC tyL [(22, g22), (39, g39), (41, g41), (48, g48)] [(38, i38)] mtL N
def g26 : Sig := ⟨(.cons (.ptr (.cons (.cons (.ptr (.cons (.own (.int .u64)) .nl)) .nl) .nl)) .nl), (.cons (.pure .bool) .nl), (Bool × ((((List Int) × Unit) × Unit) × Unit)), fun x => m_arena_Arena_sound x.1, fun _ y => (y.1, ()), fun _ y => (y.2, ())⟩
def an26 : Nat → Ann := mkA [(8, ⟨[0, 7, 11, 73, 74, 75], [], [200738, 200896], false, [(200896, [.fld 0], (.own (.int .u64)), 2003214336)]⟩)]
noncomputable def k26 (N : Nat) : Ex → St → Option (Bool × ((((List Int) × Unit) × Unit) × Unit)) := finK (c26 N) Try.f26 g26 (.cons (.ref 100000 []) .nl) (fun p => (p.1.1, p.2.1))
def a26 : Nat → Ann := annP [100000] an26
def h26_0 (u0_0 : Int) (u0_1 : Int) (u0_2 : Int) (u0_3 : Int) (u0_4 : (List Int)) (u0_5 : (List Int)) : St := ⟨114, [(0, (.ref 100000 [])), (7, (.int .i64 u0_0)), (11, (.int .u64 u0_1)), (73, (.full 200738)), (74, (.int .i64 u0_2)), (75, (.int .i64 u0_3))], [(100000, (.cons (.cons (.ref 200896 []) .nl) .nl)), (200738, (.bk (.int .i64) u0_4)), (200896, (.cons (.full 2003214336) .nl)), (2003214336, (.bk (.int .u64) u0_5))]⟩
theorem t26_0 : ∀ (N : Nat) (n : Nat) (u0_0 : Int) (u0_1 : Int) (u0_2 : Int) (u0_3 : Int) (u0_4 : (List Int)) (u0_5 : (List Int)), loopAt (c26 N) a26 [1, 1, 1, 1, 1, 1, 0, 1, 0] [] (codeOf Try.f26) (k26 N) n (h26_0 u0_0 u0_1 u0_2 u0_3 u0_4 u0_5) = m_arena_Arena_sound_l0 N n u0_0 u0_1 u0_2 u0_3 u0_4 u0_5 := by
  intro N n
  induction n with
  | zero => intro u0_0 u0_1 u0_2 u0_3 u0_4 u0_5; kernel_rfl
  | succ n ih =>
    intro u0_0 u0_1 u0_2 u0_3 u0_4 u0_5
    have e : loopAt (c26 N) a26 [1, 1, 1, 1, 1, 1, 0, 1, 0] [] (codeOf Try.f26) (k26 N) (n + 1) (h26_0 u0_0 u0_1 u0_2 u0_3 u0_4 u0_5) = m_arena_Arena_sound_l0_b (fun w0 w1 w2 w3 w4 w5 => loopAt (c26 N) a26 [1, 1, 1, 1, 1, 1, 0, 1, 0] [] (codeOf Try.f26) (k26 N) n (h26_0 w0 w1 w2 w3 w4 w5)) u0_0 u0_1 u0_2 u0_3 u0_4 u0_5 := by kernel_rfl
    refine e.trans ?_
    have es : (fun w0 w1 w2 w3 w4 w5 => loopAt (c26 N) a26 [1, 1, 1, 1, 1, 1, 0, 1, 0] [] (codeOf Try.f26) (k26 N) n (h26_0 w0 w1 w2 w3 w4 w5)) = m_arena_Arena_sound_l0 N n := by
      funext w0 w1 w2 w3 w4 w5; exact ih w0 w1 w2 w3 w4 w5
    rw [es]
    rw [m_arena_Arena_sound_l0]
theorem ew26 : ∀ (N : Nat) (x : g26.ps.den), evalFn (c26 N) an26 Try.f26 (codeOf Try.f26) g26 x (fun p => (p.1.1, p.2.1)) = m_arena_Arena_sound_a (m_arena_Arena_sound_l0 N N) x.1 := by
  intro N
  intro x
  obtain ⟨x0, xu⟩ := x
  have e : evalFn (c26 N) an26 Try.f26 (codeOf Try.f26) g26 (x0, xu) (fun p => (p.1.1, p.2.1)) = m_arena_Arena_sound_a (fun w0 w1 w2 w3 w4 w5 => loopAt (c26 N) a26 [1, 1, 1, 1, 1, 1, 0, 1, 0] [] (codeOf Try.f26) (k26 N) N (h26_0 w0 w1 w2 w3 w4 w5)) x0 := by kernel_rfl
  refine e.trans ?_
  have e0 : (fun w0 w1 w2 w3 w4 w5 => loopAt (c26 N) a26 [1, 1, 1, 1, 1, 1, 0, 1, 0] [] (codeOf Try.f26) (k26 N) N (h26_0 w0 w1 w2 w3 w4 w5)) = m_arena_Arena_sound_l0 N N := by
    funext w0 w1 w2 w3 w4 w5; exact t26_0 N N w0 w1 w2 w3 w4 w5
  rw [e0]
theorem ev26 : ∀ x : g26.ps.den, evalFn (c26 FUEL) an26 Try.f26 (codeOf Try.f26) g26 x (fun p => (p.1.1, p.2.1)) = g26.m x := fun x => ew26 FUEL x
theorem meets26 : Meets Try.prog 26 g26 :=
  meets_of (C := c26 FUEL) (ann := an26) (mkC_ok (gs := [(22, g22), (39, g39), (41, g41), (48, g48)]) (is := [(38, i38)]) (mt := mtL) tysOK elemOK ⟨meets22, meets39, meets41, meets48, trivial⟩ ⟨inl38, trivial⟩ mtOK FUEL) mixed Try.func26 (by kernel_rfl) (by kernel_rfl) (by kernel_rfl) (of_decide_eq_true (by kernel_rfl)) (fun p => (p.1.1, p.2.1)) (fun _ _ => ⟨rfl, rfl⟩) ev26
noncomputable def c5 (N : Nat) : Cx := mkC tyL [(22, g22), (23, g23), (25, g25), (26, g26)] [(21, i21)] mtL N
def g5 : Sig := ⟨(.cons (.ptr (.cons (.own (.int .u64)) .nl)) .nl), (.cons (.nptr (.cons (.cons (.ptr (.cons (.own (.int .u64)) .nl)) .nl) .nl)) (.cons (.pure (.int .i64)) .nl)), ((Option ((((List Int) × Unit) × Unit) × Unit)) × Int × ((List Int) × Unit)), fun x => m_arena_Open x.1, fun _ y => (y.1, (y.2.1, ())), fun _ y => (y.2.2, ())⟩
def an5 : Nat → Ann := mkA []
theorem ev5 : ∀ x : g5.ps.den, evalFn (c5 FUEL) an5 Try.f5 (codeOf Try.f5) g5 x (fun p => (p.1.1, p.1.2.1, p.2.1)) = g5.m x := by
  intro x
  obtain ⟨x0, xu⟩ := x
  show _ = _
  kernel_rfl
theorem meets5 : Meets Try.prog 5 g5 :=
  meets_of (C := c5 FUEL) (ann := an5) (mkC_ok (gs := [(22, g22), (23, g23), (25, g25), (26, g26)]) (is := [(21, i21)]) (mt := mtL) tysOK elemOK ⟨meets22, meets23, meets25, meets26, trivial⟩ ⟨inl21, trivial⟩ mtOK FUEL) mixed Try.func5 (by kernel_rfl) (by kernel_rfl) (by kernel_rfl) (of_decide_eq_true (by kernel_rfl)) (fun p => (p.1.1, p.1.2.1, p.2.1)) (fun _ _ => ⟨rfl, rfl⟩) ev5
def c6 (N : Nat) : Cx := mkC tyL [] [] mtL N
def g6 : Sig := ⟨(.cons (.nptr (.cons (.cons (.ptr (.cons (.own (.int .u64)) .nl)) .nl) .nl)) (.cons (.pure (.int .i64)) (.cons (.pure (.int .i64)) .nl))), (.cons (.pure .bool) .nl), (Bool × (Option ((((List Int) × Unit) × Unit) × Unit))), fun x => m_ticketlinelaw20_fails x.1 x.2.1 x.2.2.1, fun _ y => (y.1, ()), fun _ y => (y.2, ((), ((), ())))⟩
def an6 : Nat → Ann := mkA []
theorem ev6 : ∀ x : g6.ps.den, evalFn (c6 FUEL) an6 Try.f6 (codeOf Try.f6) g6 x (fun p => (p.1.1, p.2.1)) = g6.m x := by
  intro x
  obtain ⟨x0, x1, x2, xu⟩ := x
  show _ = _
  kernel_rfl
theorem meets6 : Meets Try.prog 6 g6 :=
  meets_of (C := c6 FUEL) (ann := an6) (mkC_ok (gs := []) (is := []) (mt := mtL) tysOK elemOK trivial trivial mtOK FUEL) mixed Try.func6 (by kernel_rfl) (by kernel_rfl) (by kernel_rfl) (of_decide_eq_true (by kernel_rfl)) (fun p => (p.1.1, p.2.1)) (fun _ _ => ⟨rfl, rfl⟩) ev6
def c60 (N : Nat) : Cx := mkC tyL [] [] mtL N
def g60 : Sig := ⟨(.cons (.pure (.int .i64)) .nl), (.cons (.pure (.int .i64)) .nl), Int, fun x => m_keys_Words x.1, fun _ y => (y, ()), fun _ y => ((), ())⟩
def an60 : Nat → Ann := mkA []
theorem ev60 : ∀ x : g60.ps.den, evalFn (c60 FUEL) an60 Try.f60 (codeOf Try.f60) g60 x (fun p => p.1.1) = g60.m x := by
  intro x
  obtain ⟨x0, xu⟩ := x
  show _ = _
  kernel_rfl
theorem meets60 : Meets Try.prog 60 g60 :=
  meets_of (C := c60 FUEL) (ann := an60) (mkC_ok (gs := []) (is := []) (mt := mtL) tysOK elemOK trivial trivial mtOK FUEL) mixed Try.func60 (by kernel_rfl) (by kernel_rfl) (by kernel_rfl) (of_decide_eq_true (by kernel_rfl)) (fun p => p.1.1) (fun _ _ => ⟨rfl, rfl⟩) ev60
def c61 (N : Nat) : Cx := mkC tyL [(60, g60)] [] mtL N
def g61 : Sig := ⟨(.cons (.pure (.sl (.int .u64))) (.cons (.pure (.int .i64)) .nl)), (.cons (.pure .str) (.cons (.pure (.int .i64)) .nl)), (ByteArray × Int), fun x => m_keys_Unpack x.1 x.2.1, fun _ y => (y.1, (y.2, ())), fun _ y => ((), ((), ()))⟩
def an61 : Nat → Ann := mkA [(9, ⟨[1, 24, 25, 26], [(6, (.own (.int .u8)), 300006)], [], false, []⟩), (12, ⟨[1, 8, 9, 24, 25, 26], [(6, (.own (.int .u8)), 300006)], [], false, []⟩), (17, ⟨[1, 6, 45, 46, 47], [], [300006], false, []⟩)]
noncomputable def k61 (N : Nat) : Ex → St → Option (ByteArray × Int) := finK (c61 N) Try.f61 g61 (.cons .top (.cons .top .nl)) (fun p => (p.1.1, p.1.2.1))
def a61 : Nat → Ann := annP [] an61
def h61_1 (u1_0 : Int) (u1_1 : Int) (u1_2 : Int) (u1_3 : (List Int)) (u1_4 : Int) (u1_5 : Int) (u1_6 : (List Int)) : St := ⟨58, [(6, .full 300006), (1, (.int .i64 u1_0)), (8, (.int .u64 u1_1)), (9, (.int .i64 u1_2)), (24, (.lst (.int .u64) u1_3)), (25, (.int .i64 u1_4)), (26, (.int .i64 u1_5))], [(300006, (.bk (.int .u8) u1_6))]⟩
def h61_2 (u2_0 : Int) (u2_1 : Int) (u2_2 : Int) (u2_3 : Int) (u2_4 : Int) (u2_5 : (List Int)) : St := ⟨58, [(1, (.int .i64 u2_0)), (6, (.full 300006)), (45, (.view 300006 [] u2_1 u2_2)), (46, (.int .i64 u2_3)), (47, (.int .i64 u2_4))], [(300006, (.bk (.int .u8) u2_5))]⟩
def h61_0 (u0_0 : Int) (u0_1 : (List Int)) (u0_2 : Int) (u0_3 : Int) (u0_4 : (List Int)) : St := ⟨58, [(6, .full 300006), (1, (.int .i64 u0_0)), (24, (.lst (.int .u64) u0_1)), (25, (.int .i64 u0_2)), (26, (.int .i64 u0_3))], [(300006, (.bk (.int .u8) u0_4))]⟩
theorem t61_1 : ∀ (N : Nat) (m0 : Nat) (n : Nat) (u1_0 : Int) (u1_1 : Int) (u1_2 : Int) (u1_3 : (List Int)) (u1_4 : Int) (u1_5 : Int) (u1_6 : (List Int)), loopAt (c61 N) a61 [1, 1, 1, 0, 1, 0, 0, 1, 1, 0, 0, 1, 1, 0] [m0] (codeOf Try.f61) (k61 N) n (h61_1 u1_0 u1_1 u1_2 u1_3 u1_4 u1_5 u1_6) = m_keys_Unpack_l1 N (fun w0 w1 w2 w3 w4 => loopAt (c61 N) a61 [1, 1, 1, 0, 1, 0] [] (codeOf Try.f61) (k61 N) m0 (h61_0 w0 w1 w2 w3 w4)) n u1_0 u1_1 u1_2 u1_3 u1_4 u1_5 u1_6 := by
  intro N m0 n
  induction n with
  | zero => intro u1_0 u1_1 u1_2 u1_3 u1_4 u1_5 u1_6; kernel_rfl
  | succ n ih =>
    intro u1_0 u1_1 u1_2 u1_3 u1_4 u1_5 u1_6
    have e : loopAt (c61 N) a61 [1, 1, 1, 0, 1, 0, 0, 1, 1, 0, 0, 1, 1, 0] [m0] (codeOf Try.f61) (k61 N) (n + 1) (h61_1 u1_0 u1_1 u1_2 u1_3 u1_4 u1_5 u1_6) = m_keys_Unpack_l1_b (fun w0 w1 w2 w3 w4 => loopAt (c61 N) a61 [1, 1, 1, 0, 1, 0] [] (codeOf Try.f61) (k61 N) m0 (h61_0 w0 w1 w2 w3 w4)) (fun w0 w1 w2 w3 w4 w5 w6 => loopAt (c61 N) a61 [1, 1, 1, 0, 1, 0, 0, 1, 1, 0, 0, 1, 1, 0] [m0] (codeOf Try.f61) (k61 N) n (h61_1 w0 w1 w2 w3 w4 w5 w6)) u1_0 u1_1 u1_2 u1_3 u1_4 u1_5 u1_6 := by kernel_rfl
    refine e.trans ?_
    have es : (fun w0 w1 w2 w3 w4 w5 w6 => loopAt (c61 N) a61 [1, 1, 1, 0, 1, 0, 0, 1, 1, 0, 0, 1, 1, 0] [m0] (codeOf Try.f61) (k61 N) n (h61_1 w0 w1 w2 w3 w4 w5 w6)) = m_keys_Unpack_l1 N (fun w0 w1 w2 w3 w4 => loopAt (c61 N) a61 [1, 1, 1, 0, 1, 0] [] (codeOf Try.f61) (k61 N) m0 (h61_0 w0 w1 w2 w3 w4)) n := by
      funext w0 w1 w2 w3 w4 w5 w6; exact ih w0 w1 w2 w3 w4 w5 w6
    rw [es]
    rw [m_keys_Unpack_l1]
theorem t61_2 : ∀ (N : Nat) (n : Nat) (u2_0 : Int) (u2_1 : Int) (u2_2 : Int) (u2_3 : Int) (u2_4 : Int) (u2_5 : (List Int)), loopAt (c61 N) a61 [1, 1, 1, 1, 0, 1, 0] [] (codeOf Try.f61) (k61 N) n (h61_2 u2_0 u2_1 u2_2 u2_3 u2_4 u2_5) = m_keys_Unpack_l2 N n u2_0 u2_1 u2_2 u2_3 u2_4 u2_5 := by
  intro N n
  induction n with
  | zero => intro u2_0 u2_1 u2_2 u2_3 u2_4 u2_5; kernel_rfl
  | succ n ih =>
    intro u2_0 u2_1 u2_2 u2_3 u2_4 u2_5
    have e : loopAt (c61 N) a61 [1, 1, 1, 1, 0, 1, 0] [] (codeOf Try.f61) (k61 N) (n + 1) (h61_2 u2_0 u2_1 u2_2 u2_3 u2_4 u2_5) = m_keys_Unpack_l2_b (fun w0 w1 w2 w3 w4 w5 => loopAt (c61 N) a61 [1, 1, 1, 1, 0, 1, 0] [] (codeOf Try.f61) (k61 N) n (h61_2 w0 w1 w2 w3 w4 w5)) u2_0 u2_1 u2_2 u2_3 u2_4 u2_5 := by kernel_rfl
    refine e.trans ?_
    have es : (fun w0 w1 w2 w3 w4 w5 => loopAt (c61 N) a61 [1, 1, 1, 1, 0, 1, 0] [] (codeOf Try.f61) (k61 N) n (h61_2 w0 w1 w2 w3 w4 w5)) = m_keys_Unpack_l2 N n := by
      funext w0 w1 w2 w3 w4 w5; exact ih w0 w1 w2 w3 w4 w5
    rw [es]
    rw [m_keys_Unpack_l2]
theorem t61_0 : ∀ (N : Nat) (n : Nat) (u0_0 : Int) (u0_1 : (List Int)) (u0_2 : Int) (u0_3 : Int) (u0_4 : (List Int)), loopAt (c61 N) a61 [1, 1, 1, 0, 1, 0] [] (codeOf Try.f61) (k61 N) n (h61_0 u0_0 u0_1 u0_2 u0_3 u0_4) = m_keys_Unpack_l0 N n u0_0 u0_1 u0_2 u0_3 u0_4 := by
  intro N n
  induction n with
  | zero => intro u0_0 u0_1 u0_2 u0_3 u0_4; kernel_rfl
  | succ n ih =>
    intro u0_0 u0_1 u0_2 u0_3 u0_4
    have e : loopAt (c61 N) a61 [1, 1, 1, 0, 1, 0] [] (codeOf Try.f61) (k61 N) (n + 1) (h61_0 u0_0 u0_1 u0_2 u0_3 u0_4) = m_keys_Unpack_l0_b (fun w0 w1 w2 w3 w4 => loopAt (c61 N) a61 [1, 1, 1, 0, 1, 0] [] (codeOf Try.f61) (k61 N) n (h61_0 w0 w1 w2 w3 w4)) (fun w0 w1 w2 w3 w4 w5 w6 => loopAt (c61 N) a61 [1, 1, 1, 0, 1, 0, 0, 1, 1, 0, 0, 1, 1, 0] [n] (codeOf Try.f61) (k61 N) N (h61_1 w0 w1 w2 w3 w4 w5 w6)) (fun w0 w1 w2 w3 w4 w5 => loopAt (c61 N) a61 [1, 1, 1, 1, 0, 1, 0] [] (codeOf Try.f61) (k61 N) N (h61_2 w0 w1 w2 w3 w4 w5)) u0_0 u0_1 u0_2 u0_3 u0_4 := by kernel_rfl
    refine e.trans ?_
    have e1 : (fun w0 w1 w2 w3 w4 w5 w6 => loopAt (c61 N) a61 [1, 1, 1, 0, 1, 0, 0, 1, 1, 0, 0, 1, 1, 0] [n] (codeOf Try.f61) (k61 N) N (h61_1 w0 w1 w2 w3 w4 w5 w6)) = m_keys_Unpack_l1 N (fun w0 w1 w2 w3 w4 => loopAt (c61 N) a61 [1, 1, 1, 0, 1, 0] [] (codeOf Try.f61) (k61 N) n (h61_0 w0 w1 w2 w3 w4)) N := by
      funext w0 w1 w2 w3 w4 w5 w6; exact t61_1 N n N w0 w1 w2 w3 w4 w5 w6
    rw [e1]
    have e2 : (fun w0 w1 w2 w3 w4 w5 => loopAt (c61 N) a61 [1, 1, 1, 1, 0, 1, 0] [] (codeOf Try.f61) (k61 N) N (h61_2 w0 w1 w2 w3 w4 w5)) = m_keys_Unpack_l2 N N := by
      funext w0 w1 w2 w3 w4 w5; exact t61_2 N N w0 w1 w2 w3 w4 w5
    rw [e2]
    have es : (fun w0 w1 w2 w3 w4 => loopAt (c61 N) a61 [1, 1, 1, 0, 1, 0] [] (codeOf Try.f61) (k61 N) n (h61_0 w0 w1 w2 w3 w4)) = m_keys_Unpack_l0 N n := by
      funext w0 w1 w2 w3 w4; exact ih w0 w1 w2 w3 w4
    rw [es]
    rw [m_keys_Unpack_l0]
theorem ew61 : ∀ (N : Nat) (x : g61.ps.den), evalFn (c61 N) an61 Try.f61 (codeOf Try.f61) g61 x (fun p => (p.1.1, p.1.2.1)) = m_keys_Unpack_a (m_keys_Unpack_l0 N N) x.1 x.2.1 := by
  intro N
  intro x
  obtain ⟨x0, x1, xu⟩ := x
  have e : evalFn (c61 N) an61 Try.f61 (codeOf Try.f61) g61 (x0, x1, xu) (fun p => (p.1.1, p.1.2.1)) = m_keys_Unpack_a (fun w0 w1 w2 w3 w4 => loopAt (c61 N) a61 [1, 1, 1, 0, 1, 0] [] (codeOf Try.f61) (k61 N) N (h61_0 w0 w1 w2 w3 w4)) x0 x1 := by kernel_rfl
  refine e.trans ?_
  have e0 : (fun w0 w1 w2 w3 w4 => loopAt (c61 N) a61 [1, 1, 1, 0, 1, 0] [] (codeOf Try.f61) (k61 N) N (h61_0 w0 w1 w2 w3 w4)) = m_keys_Unpack_l0 N N := by
    funext w0 w1 w2 w3 w4; exact t61_0 N N w0 w1 w2 w3 w4
  rw [e0]
theorem ev61 : ∀ x : g61.ps.den, evalFn (c61 FUEL) an61 Try.f61 (codeOf Try.f61) g61 x (fun p => (p.1.1, p.1.2.1)) = g61.m x := fun x => ew61 FUEL x
theorem meets61 : Meets Try.prog 61 g61 :=
  meets_of (C := c61 FUEL) (ann := an61) (mkC_ok (gs := [(60, g60)]) (is := []) (mt := mtL) tysOK elemOK ⟨meets60, trivial⟩ trivial mtOK FUEL) mixed Try.func61 (by kernel_rfl) (by kernel_rfl) (by kernel_rfl) (of_decide_eq_true (by kernel_rfl)) (fun p => (p.1.1, p.1.2.1)) (fun _ _ => ⟨rfl, rfl⟩) ev61

end Go.Proofs.Ytbmdoalneeeonab
