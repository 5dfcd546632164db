/- A part of the proof of a statement of this seat: the functions keep their promises. No condition. -/
import Derived.Test.YtbmdoalneeeonaaP20H
set_option linter.unusedVariables false
set_option maxRecDepth 100000
namespace Go.Proofs.Ytbmdoalneeeonaa
open Go Go.Ev Go.Ev.M Go.Proofs
def c43 (N : Nat) : Cx := mkC tyL [] [] mtL N
def g43 : Sig := ⟨(.cons (.pure (.int .i64)) (.cons (.pure (.int .i64)) .nl)), (.cons (.pure (.int .i64)) .nl), Int, fun x => m_arena_place x.1 x.2.1, fun _ y => (y, ()), fun _ y => ((), ((), ()))⟩
def an43 : Nat → Ann := mkA []
theorem ev43 : ∀ x : g43.ps.den, evalFn (c43 FUEL) an43 Try.f43 (codeOf Try.f43) g43 x (fun p => p.1.1) = g43.m x := by
  intro x
  obtain ⟨x0, x1, xu⟩ := x
  show _ = _
  kernel_rfl
theorem meets43 : Meets Try.prog 43 g43 :=
  meets_of (C := c43 FUEL) (ann := an43) (mkC_ok (gs := []) (is := []) (mt := mtL) tysOK elemOK trivial trivial mtOK FUEL) mixed Try.func43 (by kernel_rfl) (by kernel_rfl) (by kernel_rfl) (of_decide_eq_true (by kernel_rfl)) (fun p => p.1.1) (fun _ _ => ⟨rfl, rfl⟩) ev43
def c35 (N : Nat) : Cx := mkC tyL [(43, g43)] [] mtL N
def g35 : Sig := ⟨(.cons (.pure (.int .i64)) (.cons (.pure (.int .i64)) .nl)), (.cons (.pure (.int .i64)) (.cons (.pure (.int .i64)) .nl)), (Int × Int), fun x => m_arena_Word x.1 x.2.1, fun _ y => (y.1, (y.2, ())), fun _ y => ((), ((), ()))⟩
def an35 : Nat → Ann := mkA []
theorem ev35 : ∀ x : g35.ps.den, evalFn (c35 FUEL) an35 Try.f35 (codeOf Try.f35) g35 x (fun p => (p.1.1, p.1.2.1)) = g35.m x := by
  intro x
  obtain ⟨x0, x1, xu⟩ := x
  show _ = _
  kernel_rfl
theorem meets35 : Meets Try.prog 35 g35 :=
  meets_of (C := c35 FUEL) (ann := an35) (mkC_ok (gs := [(43, g43)]) (is := []) (mt := mtL) tysOK elemOK ⟨meets43, trivial⟩ trivial mtOK FUEL) mixed Try.func35 (by kernel_rfl) (by kernel_rfl) (by kernel_rfl) (of_decide_eq_true (by kernel_rfl)) (fun p => (p.1.1, p.1.2.1)) (fun _ _ => ⟨rfl, rfl⟩) ev35
def c9 (N : Nat) : Cx := mkC tyL [(35, g35)] [] mtL N
def g9 : Sig := ⟨(.cons (.pure (.int .i64)) (.cons (.pure (.int .i64)) (.cons (.pure (.int .i64)) (.cons (.pure (.int .i64)) .nl)))), (.cons (.pure .bool) .nl), Bool, fun x => m_ticketlinelaw20_word x.1 x.2.1 x.2.2.1 x.2.2.2.1, fun _ y => (y, ()), fun _ y => ((), ((), ((), ((), ()))))⟩
def an9 : Nat → Ann := mkA []
theorem ev9 : ∀ x : g9.ps.den, evalFn (c9 FUEL) an9 Try.f9 (codeOf Try.f9) g9 x (fun p => p.1.1) = g9.m x := by
  intro x
  obtain ⟨x0, x1, x2, x3, xu⟩ := x
  show _ = _
  kernel_rfl
theorem meets9 : Meets Try.prog 9 g9 :=
  meets_of (C := c9 FUEL) (ann := an9) (mkC_ok (gs := [(35, g35)]) (is := []) (mt := mtL) tysOK elemOK ⟨meets35, trivial⟩ trivial mtOK FUEL) mixed Try.func9 (by kernel_rfl) (by kernel_rfl) (by kernel_rfl) (of_decide_eq_true (by kernel_rfl)) (fun p => p.1.1) (fun _ _ => ⟨rfl, rfl⟩) ev9
def c41 (N : Nat) : Cx := mkC tyL [] [] mtL N
def g41 : Sig := ⟨(.cons (.pure (.int .i64)) .nl), (.cons (.nptr (.cons (.own (.int .u64)) .nl)) (.cons (.pure (.int .i64)) .nl)), ((Option ((List Int) × Unit)) × Int), fun x => m_mem_New x.1, fun _ y => (y.1, (y.2, ())), fun _ y => ((), ())⟩
def an41 : Nat → Ann := mkA []
theorem ev41 : ∀ x : g41.ps.den, evalFn (c41 FUEL) an41 Try.f41 (codeOf Try.f41) g41 x (fun p => (p.1.1, p.1.2.1)) = g41.m x := by
  intro x
  obtain ⟨x0, xu⟩ := x
  show _ = _
  kernel_rfl
theorem meets41 : Meets Try.prog 41 g41 :=
  meets_of (C := c41 FUEL) (ann := an41) (mkC_ok (gs := []) (is := []) (mt := mtL) tysOK elemOK trivial trivial mtOK FUEL) mixed Try.func41 (by kernel_rfl) (by kernel_rfl) (by kernel_rfl) (of_decide_eq_true (by kernel_rfl)) (fun p => (p.1.1, p.1.2.1)) (fun _ _ => ⟨rfl, rfl⟩) ev41
def c11 (N : Nat) : Cx := mkC tyL [(41, g41)] [] mtL N
def g11 : Sig := ⟨(.cons (.pure (.int .i64)) .nl), (.cons (.ptr (.cons (.own (.int .u64)) .nl)) .nl), ((List Int) × Unit), fun x => m_ticketlinelaw20_memory x.1, fun _ y => (y, ()), fun _ y => ((), ())⟩
def an11 : Nat → Ann := mkA []
theorem ev11 : ∀ x : g11.ps.den, evalFn (c11 FUEL) an11 Try.f11 (codeOf Try.f11) g11 x (fun p => p.1.1) = g11.m x := by
  intro x
  obtain ⟨x0, xu⟩ := x
  show _ = _
  kernel_rfl
theorem meets11 : Meets Try.prog 11 g11 :=
  meets_of (C := c11 FUEL) (ann := an11) (mkC_ok (gs := [(41, g41)]) (is := []) (mt := mtL) tysOK elemOK ⟨meets41, trivial⟩ trivial mtOK FUEL) mixed Try.func11 (by kernel_rfl) (by kernel_rfl) (by kernel_rfl) (of_decide_eq_true (by kernel_rfl)) (fun p => p.1.1) (fun _ _ => ⟨rfl, rfl⟩) ev11
def c77 (N : Nat) : Cx := mkC tyL [] [] mtL N
noncomputable def i77 : List AV → Nat → Pg AV := inlPg (c77 0) Try.f77 (codeOf Try.f77)
theorem inl77 : Inlines Try.prog 77 i77 := inlines (C := c77 0) (mkC_ok (gs := []) (is := []) (mt := mtL) tysOK elemOK trivial trivial mtOK 0) mixed Try.func77 (by kernel_rfl) (by kernel_rfl)
noncomputable def c42 (N : Nat) : Cx := mkC tyL [] [(77, i77)] mtL N
noncomputable def i42 : List AV → Nat → Pg AV := inlPg (c42 0) Try.f42 (codeOf Try.f42)
theorem inl42 : Inlines Try.prog 42 i42 := inlines (C := c42 0) (mkC_ok (gs := []) (is := [(77, i77)]) (mt := mtL) tysOK elemOK trivial ⟨inl77, trivial⟩ mtOK 0) mixed Try.func42 (by kernel_rfl) (by kernel_rfl)
def c78 (N : Nat) : Cx := mkC tyL [] [] mtL N
def g78 : Sig := ⟨(.cons (.pure (.sl (.int .u64))) .nl), (.cons (.own (.int .u64)) .nl), (List Int), fun x => m_slices_Clone_uint64_uint64 x.1, fun _ y => (y, ()), fun _ y => ((), ())⟩
def an78 : Nat → Ann := mkA []
theorem ev78 : ∀ x : g78.ps.den, evalFn (c78 FUEL) an78 Try.f78 (codeOf Try.f78) g78 x (fun p => p.1.1) = g78.m x := by
  intro x
  obtain ⟨x0, xu⟩ := x
  show _ = _
  kernel_rfl
theorem meets78 : Meets Try.prog 78 g78 :=
  meets_of (C := c78 FUEL) (ann := an78) (mkC_ok (gs := []) (is := []) (mt := mtL) tysOK elemOK trivial trivial mtOK FUEL) mixed Try.func78 (by kernel_rfl) (by kernel_rfl) (by kernel_rfl) (of_decide_eq_true (by kernel_rfl)) (fun p => p.1.1) (fun _ _ => ⟨rfl, rfl⟩) ev78
noncomputable def c44 (N : Nat) : Cx := mkC tyL [(78, g78)] [(77, i77)] mtL N
def g44 : Sig := ⟨(.cons (.ptr (.cons (.own (.int .u64)) .nl)) .nl), (.cons (.ptr (.cons (.own (.int .u64)) .nl)) .nl), (((List Int) × Unit) × ((List Int) × Unit)), fun x => m_mem_Mem_Copy x.1, fun _ y => (y.1, ()), fun _ y => (y.2, ())⟩
def an44 : Nat → Ann := mkA []
theorem ev44 : ∀ x : g44.ps.den, evalFn (c44 FUEL) an44 Try.f44 (codeOf Try.f44) g44 x (fun p => (p.1.1, p.2.1)) = g44.m x := by
  intro x
  obtain ⟨x0, xu⟩ := x
  show _ = _
  kernel_rfl
theorem meets44 : Meets Try.prog 44 g44 :=
  meets_of (C := c44 FUEL) (ann := an44) (mkC_ok (gs := [(78, g78)]) (is := [(77, i77)]) (mt := mtL) tysOK elemOK ⟨meets78, trivial⟩ ⟨inl77, trivial⟩ mtOK FUEL) mixed Try.func44 (by kernel_rfl) (by kernel_rfl) (by kernel_rfl) (of_decide_eq_true (by kernel_rfl)) (fun p => (p.1.1, p.2.1)) (fun _ _ => ⟨rfl, rfl⟩) ev44
noncomputable def c69 (N : Nat) : Cx := mkC tyL [] [(77, i77)] mtL N
def g69 : Sig := ⟨(.cons (.ptr (.cons (.own (.int .u64)) .nl)) (.cons (.pure (.pair (.int .i64) (.pair (.int .i64) (.pair (.int .u64) (.pair (.int .u64) .nl))))) .nl)), (.cons (.pure (.pair (.int .i64) (.pair (.int .i64) (.pair (.int .u64) (.pair (.int .u64) .nl))))) (.cons (.pure (.int .i64)) .nl)), ((Int × (Int × (Int × (Int × Unit)))) × Int × ((List Int) × Unit)), fun x => m_mem_Mem_Do x.1 x.2.1, fun _ y => (y.1, (y.2.1, ())), fun _ y => (y.2.2, ((), ()))⟩
def an69 : Nat → Ann := mkA []
theorem ev69 : ∀ x : g69.ps.den, evalFn (c69 FUEL) an69 Try.f69 (codeOf Try.f69) g69 x (fun p => (p.1.1, p.1.2.1, p.2.1)) = g69.m x := by
  intro x
  obtain ⟨x0, x1, xu⟩ := x
  show _ = _
  kernel_rfl
theorem meets69 : Meets Try.prog 69 g69 :=
  meets_of (C := c69 FUEL) (ann := an69) (mkC_ok (gs := []) (is := [(77, i77)]) (mt := mtL) tysOK elemOK trivial ⟨inl77, trivial⟩ mtOK FUEL) mixed Try.func69 (by kernel_rfl) (by kernel_rfl) (by kernel_rfl) (of_decide_eq_true (by kernel_rfl)) (fun p => (p.1.1, p.1.2.1, p.2.1)) (fun _ _ => ⟨rfl, rfl⟩) ev69
def c29 (N : Nat) : Cx := mkC tyL [(69, g69)] [] mtL N
def g29 : Sig := ⟨(.cons (.ptr (.cons (.own (.int .u64)) .nl)) (.cons (.pure (.int .i64)) (.cons (.pure (.int .u64)) .nl))), (.cons (.pure (.int .i64)) .nl), (Int × ((List Int) × Unit)), fun x => m_mem_Mem_Store x.1 x.2.1 x.2.2.1, fun _ y => (y.1, ()), fun _ y => (y.2, ((), ((), ())))⟩
def an29 : Nat → Ann := mkA []
theorem ev29 : ∀ x : g29.ps.den, evalFn (c29 FUEL) an29 Try.f29 (codeOf Try.f29) g29 x (fun p => (p.1.1, p.2.1)) = g29.m x := by
  intro x
  obtain ⟨x0, x1, x2, xu⟩ := x
  show _ = _
  kernel_rfl
theorem meets29 : Meets Try.prog 29 g29 :=
  meets_of (C := c29 FUEL) (ann := an29) (mkC_ok (gs := [(69, g69)]) (is := []) (mt := mtL) tysOK elemOK ⟨meets69, trivial⟩ trivial mtOK FUEL) mixed Try.func29 (by kernel_rfl) (by kernel_rfl) (by kernel_rfl) (of_decide_eq_true (by kernel_rfl)) (fun p => (p.1.1, p.2.1)) (fun _ _ => ⟨rfl, rfl⟩) ev29
def c45 (N : Nat) : Cx := mkC tyL [(29, g29)] [] mtL N
noncomputable def i45 : List AV → Nat → Pg AV := inlPg (c45 0) Try.f45 (codeOf Try.f45)
theorem inl45 : Inlines Try.prog 45 i45 := inlines (C := c45 0) (mkC_ok (gs := [(29, g29)]) (is := []) (mt := mtL) tysOK elemOK ⟨meets29, trivial⟩ trivial mtOK 0) mixed Try.func45 (by kernel_rfl) (by kernel_rfl)
noncomputable def c12 (N : Nat) : Cx := mkC tyL [(43, g43), (44, g44)] [(42, i42), (45, i45)] mtL N
def g12 : Sig := ⟨(.cons (.ptr (.cons (.own (.int .u64)) .nl)) (.cons (.pure (.int .i64)) .nl)), (.cons (.nptr (.cons (.cons (.ptr (.cons (.own (.int .u64)) .nl)) .nl) .nl)) (.cons (.pure (.int .i64)) .nl)), ((Option ((((List Int) × Unit) × Unit) × Unit)) × Int × ((List Int) × Unit)), fun x => m_arena_Format x.1 x.2.1, fun _ y => (y.1, (y.2.1, ())), fun _ y => (y.2.2, ((), ()))⟩
def an12 : Nat → Ann := mkA [(7, ⟨[1, 6, 33, 34], [], [6, 200928, 200929], false, [(200929, [.fld 0], (.own (.int .u64)), 2003214864)]⟩), (15, ⟨[1, 6, 8], [], [6, 200928, 200929], false, [(200929, [.fld 0], (.own (.int .u64)), 2003214864)]⟩)]
noncomputable def k12 (N : Nat) : Ex → St → Option ((Option ((((List Int) × Unit) × Unit) × Unit)) × Int × ((List Int) × Unit)) := finK (c12 N) Try.f12 g12 (.cons (.ref 100000 []) (.cons .top .nl)) (fun p => (p.1.1, p.1.2.1, p.2.1))
def a12 : Nat → Ann := annP [100000] an12
def h12_1 (u1_0 : Int) (u1_1 : Int) (u1_2 : (List Int)) (u1_3 : (List Int)) : St := ⟨64, [(1, (.int .i64 u1_0)), (6, (.ref 6 [])), (8, (.int .i64 u1_1))], [(100000, (.cons (.full 200928) .nl)), (6, (.cons (.ref 200929 []) .nl)), (200928, (.bk (.int .u64) u1_2)), (200929, (.cons (.full 2003214864) .nl)), (2003214864, (.bk (.int .u64) u1_3))]⟩
def h12_0 (u0_0 : Int) (u0_1 : Int) (u0_2 : Int) (u0_3 : (List Int)) (u0_4 : (List Int)) : St := ⟨64, [(1, (.int .i64 u0_0)), (6, (.ref 6 [])), (33, (.int .i64 u0_1)), (34, (.int .i64 u0_2))], [(100000, (.cons (.full 200928) .nl)), (6, (.cons (.ref 200929 []) .nl)), (200928, (.bk (.int .u64) u0_3)), (200929, (.cons (.full 2003214864) .nl)), (2003214864, (.bk (.int .u64) u0_4))]⟩
theorem t12_1 : ∀ (N : Nat) (n : Nat) (u1_0 : Int) (u1_1 : Int) (u1_2 : (List Int)) (u1_3 : (List Int)), loopAt (c12 N) a12 [1, 1, 1, 1, 1, 1, 1, 0, 1, 0] [] (codeOf Try.f12) (k12 N) n (h12_1 u1_0 u1_1 u1_2 u1_3) = m_arena_Format_l1 N n u1_0 u1_1 u1_2 u1_3 := by
  intro N n
  induction n with
  | zero => intro u1_0 u1_1 u1_2 u1_3; kernel_rfl
  | succ n ih =>
    intro u1_0 u1_1 u1_2 u1_3
    have e : loopAt (c12 N) a12 [1, 1, 1, 1, 1, 1, 1, 0, 1, 0] [] (codeOf Try.f12) (k12 N) (n + 1) (h12_1 u1_0 u1_1 u1_2 u1_3) = m_arena_Format_l1_b (fun w0 w1 w2 w3 => loopAt (c12 N) a12 [1, 1, 1, 1, 1, 1, 1, 0, 1, 0] [] (codeOf Try.f12) (k12 N) n (h12_1 w0 w1 w2 w3)) u1_0 u1_1 u1_2 u1_3 := by kernel_rfl
    refine e.trans ?_
    have es : (fun w0 w1 w2 w3 => loopAt (c12 N) a12 [1, 1, 1, 1, 1, 1, 1, 0, 1, 0] [] (codeOf Try.f12) (k12 N) n (h12_1 w0 w1 w2 w3)) = m_arena_Format_l1 N n := by
      funext w0 w1 w2 w3; exact ih w0 w1 w2 w3
    rw [es]
    rw [m_arena_Format_l1]
theorem t12_0 : ∀ (N : Nat) (n : Nat) (u0_0 : Int) (u0_1 : Int) (u0_2 : Int) (u0_3 : (List Int)) (u0_4 : (List Int)), loopAt (c12 N) a12 [1, 1, 1, 0, 1, 0] [] (codeOf Try.f12) (k12 N) n (h12_0 u0_0 u0_1 u0_2 u0_3 u0_4) = m_arena_Format_l0 N n u0_0 u0_1 u0_2 u0_3 u0_4 := by
  intro N n
  induction n with
  | zero => intro u0_0 u0_1 u0_2 u0_3 u0_4; kernel_rfl
  | succ n ih =>
    intro u0_0 u0_1 u0_2 u0_3 u0_4
    have e : loopAt (c12 N) a12 [1, 1, 1, 0, 1, 0] [] (codeOf Try.f12) (k12 N) (n + 1) (h12_0 u0_0 u0_1 u0_2 u0_3 u0_4) = m_arena_Format_l0_b (fun w0 w1 w2 w3 w4 => loopAt (c12 N) a12 [1, 1, 1, 0, 1, 0] [] (codeOf Try.f12) (k12 N) n (h12_0 w0 w1 w2 w3 w4)) (fun w0 w1 w2 w3 => loopAt (c12 N) a12 [1, 1, 1, 1, 1, 1, 1, 0, 1, 0] [] (codeOf Try.f12) (k12 N) N (h12_1 w0 w1 w2 w3)) u0_0 u0_1 u0_2 u0_3 u0_4 := by kernel_rfl
    refine e.trans ?_
    have e1 : (fun w0 w1 w2 w3 => loopAt (c12 N) a12 [1, 1, 1, 1, 1, 1, 1, 0, 1, 0] [] (codeOf Try.f12) (k12 N) N (h12_1 w0 w1 w2 w3)) = m_arena_Format_l1 N N := by
      funext w0 w1 w2 w3; exact t12_1 N N w0 w1 w2 w3
    rw [e1]
    have es : (fun w0 w1 w2 w3 w4 => loopAt (c12 N) a12 [1, 1, 1, 0, 1, 0] [] (codeOf Try.f12) (k12 N) n (h12_0 w0 w1 w2 w3 w4)) = m_arena_Format_l0 N n := by
      funext w0 w1 w2 w3 w4; exact ih w0 w1 w2 w3 w4
    rw [es]
    rw [m_arena_Format_l0]
theorem ew12 : ∀ (N : Nat) (x : g12.ps.den), evalFn (c12 N) an12 Try.f12 (codeOf Try.f12) g12 x (fun p => (p.1.1, p.1.2.1, p.2.1)) = m_arena_Format_a (m_arena_Format_l0 N N) x.1 x.2.1 := by
  intro N
  intro x
  obtain ⟨x0, x1, xu⟩ := x
  have e : evalFn (c12 N) an12 Try.f12 (codeOf Try.f12) g12 (x0, x1, xu) (fun p => (p.1.1, p.1.2.1, p.2.1)) = m_arena_Format_a (fun w0 w1 w2 w3 w4 => loopAt (c12 N) a12 [1, 1, 1, 0, 1, 0] [] (codeOf Try.f12) (k12 N) N (h12_0 w0 w1 w2 w3 w4)) x0 x1 := by kernel_rfl
  refine e.trans ?_
  have e0 : (fun w0 w1 w2 w3 w4 => loopAt (c12 N) a12 [1, 1, 1, 0, 1, 0] [] (codeOf Try.f12) (k12 N) N (h12_0 w0 w1 w2 w3 w4)) = m_arena_Format_l0 N N := by
    funext w0 w1 w2 w3 w4; exact t12_0 N N w0 w1 w2 w3 w4
  rw [e0]
theorem ev12 : ∀ x : g12.ps.den, evalFn (c12 FUEL) an12 Try.f12 (codeOf Try.f12) g12 x (fun p => (p.1.1, p.1.2.1, p.2.1)) = g12.m x := fun x => ew12 FUEL x
theorem meets12 : Meets Try.prog 12 g12 :=
  meets_of (C := c12 FUEL) (ann := an12) (mkC_ok (gs := [(43, g43), (44, g44)]) (is := [(42, i42), (45, i45)]) (mt := mtL) tysOK elemOK ⟨meets43, meets44, trivial⟩ ⟨inl42, inl45, trivial⟩ mtOK FUEL) mixed Try.func12 (by kernel_rfl) (by kernel_rfl) (by kernel_rfl) (of_decide_eq_true (by kernel_rfl)) (fun p => (p.1.1, p.1.2.1, p.2.1)) (fun _ _ => ⟨rfl, rfl⟩) ev12
def c48 (N : Nat) : Cx := mkC tyL [] [] mtL N
noncomputable def i48 : List AV → Nat → Pg AV := inlPg (c48 0) Try.f48 (codeOf Try.f48)
theorem inl48 : Inlines Try.prog 48 i48 := inlines (C := c48 0) (mkC_ok (gs := []) (is := []) (mt := mtL) tysOK elemOK trivial trivial mtOK 0) mixed Try.func48 (by kernel_rfl) (by kernel_rfl)
def c56 (N : Nat) : Cx := mkC tyL [(69, g69)] [] mtL N
def g56 : Sig := ⟨(.cons (.ptr (.cons (.own (.int .u64)) .nl)) (.cons (.pure (.int .i64)) .nl)), (.cons (.pure (.int .u64)) (.cons (.pure (.int .i64)) .nl)), (Int × Int × ((List Int) × Unit)), fun x => m_mem_Mem_Load x.1 x.2.1, fun _ y => (y.1, (y.2.1, ())), fun _ y => (y.2.2, ((), ()))⟩
def an56 : Nat → Ann := mkA []
theorem ev56 : ∀ x : g56.ps.den, evalFn (c56 FUEL) an56 Try.f56 (codeOf Try.f56) g56 x (fun p => (p.1.1, p.1.2.1, p.2.1)) = g56.m x := by
  intro x
  obtain ⟨x0, x1, xu⟩ := x
  show _ = _
  kernel_rfl
theorem meets56 : Meets Try.prog 56 g56 :=
  meets_of (C := c56 FUEL) (ann := an56) (mkC_ok (gs := [(69, g69)]) (is := []) (mt := mtL) tysOK elemOK ⟨meets69, trivial⟩ trivial mtOK FUEL) mixed Try.func56 (by kernel_rfl) (by kernel_rfl) (by kernel_rfl) (of_decide_eq_true (by kernel_rfl)) (fun p => (p.1.1, p.1.2.1, p.2.1)) (fun _ _ => ⟨rfl, rfl⟩) ev56
def c50 (N : Nat) : Cx := mkC tyL [(56, g56)] [] mtL N
noncomputable def i50 : List AV → Nat → Pg AV := inlPg (c50 0) Try.f50 (codeOf Try.f50)
theorem inl50 : Inlines Try.prog 50 i50 := inlines (C := c50 0) (mkC_ok (gs := [(56, g56)]) (is := []) (mt := mtL) tysOK elemOK ⟨meets56, trivial⟩ trivial mtOK 0) mixed Try.func50 (by kernel_rfl) (by kernel_rfl)
noncomputable def c37 (N : Nat) : Cx := mkC tyL [] [(48, i48), (50, i50)] mtL N
def g37 : Sig := ⟨(.cons (.ptr (.cons (.cons (.ptr (.cons (.own (.int .u64)) .nl)) .nl) .nl)) .nl), (.cons (.pure (.int .i64)) .nl), (Int × ((((List Int) × Unit) × Unit) × Unit)), fun x => m_arena_Arena_Root x.1, fun _ y => (y.1, ()), fun _ y => (y.2, ())⟩
def an37 : Nat → Ann := mkA []
theorem ev37 : ∀ x : g37.ps.den, evalFn (c37 FUEL) an37 Try.f37 (codeOf Try.f37) g37 x (fun p => (p.1.1, p.2.1)) = g37.m x := by
  intro x
  obtain ⟨x0, xu⟩ := x
  show _ = _
  kernel_rfl
theorem meets37 : Meets Try.prog 37 g37 :=
  meets_of (C := c37 FUEL) (ann := an37) (mkC_ok (gs := []) (is := [(48, i48), (50, i50)]) (mt := mtL) tysOK elemOK trivial ⟨inl48, inl50, trivial⟩ mtOK FUEL) mixed Try.func37 (by kernel_rfl) (by kernel_rfl) (by kernel_rfl) (of_decide_eq_true (by kernel_rfl)) (fun p => (p.1.1, p.2.1)) (fun _ _ => ⟨rfl, rfl⟩) ev37
noncomputable def c61 (N : Nat) : Cx := mkC tyL [] [(50, i50)] mtL N
def g61 : Sig := ⟨(.cons (.ptr (.cons (.cons (.ptr (.cons (.own (.int .u64)) .nl)) .nl) .nl)) .nl), (.cons (.pure (.int .i64)) .nl), (Int × ((((List Int) × Unit) × Unit) × Unit)), fun x => m_arena_Arena_pages x.1, fun _ y => (y.1, ()), fun _ y => (y.2, ())⟩
def an61 : Nat → Ann := mkA []
theorem ev61 : ∀ x : g61.ps.den, evalFn (c61 FUEL) an61 Try.f61 (codeOf Try.f61) g61 x (fun p => (p.1.1, p.2.1)) = g61.m x := by
  intro x
  obtain ⟨x0, xu⟩ := x
  show _ = _
  kernel_rfl
theorem meets61 : Meets Try.prog 61 g61 :=
  meets_of (C := c61 FUEL) (ann := an61) (mkC_ok (gs := []) (is := [(50, i50)]) (mt := mtL) tysOK elemOK trivial ⟨inl50, trivial⟩ mtOK FUEL) mixed Try.func61 (by kernel_rfl) (by kernel_rfl) (by kernel_rfl) (of_decide_eq_true (by kernel_rfl)) (fun p => (p.1.1, p.2.1)) (fun _ _ => ⟨rfl, rfl⟩) ev61
noncomputable def c55 (N : Nat) : Cx := mkC tyL [(61, g61)] [(48, i48)] mtL N
noncomputable def i55 : List AV → Nat → Pg AV := inlPg (c55 0) Try.f55 (codeOf Try.f55)
theorem inl55 : Inlines Try.prog 55 i55 := inlines (C := c55 0) (mkC_ok (gs := [(61, g61)]) (is := [(48, i48)]) (mt := mtL) tysOK elemOK ⟨meets61, trivial⟩ ⟨inl48, trivial⟩ mtOK 0) mixed Try.func55 (by kernel_rfl) (by kernel_rfl)
noncomputable def c81 (N : Nat) : Cx := mkC tyL [(43, g43)] [(50, i50)] mtL N
def g81 : Sig := ⟨(.cons (.ptr (.cons (.cons (.ptr (.cons (.own (.int .u64)) .nl)) .nl) .nl)) (.cons (.pure (.int .i64)) .nl)), (.cons (.pure (.int .u64)) .nl), (Int × ((((List Int) × Unit) × Unit) × Unit)), fun x => m_arena_Arena_kind x.1 x.2.1, fun _ y => (y.1, ()), fun _ y => (y.2, ((), ()))⟩
def an81 : Nat → Ann := mkA []
theorem ev81 : ∀ x : g81.ps.den, evalFn (c81 FUEL) an81 Try.f81 (codeOf Try.f81) g81 x (fun p => (p.1.1, p.2.1)) = g81.m x := by
  intro x
  obtain ⟨x0, x1, xu⟩ := x
  show _ = _
  kernel_rfl
theorem meets81 : Meets Try.prog 81 g81 :=
  meets_of (C := c81 FUEL) (ann := an81) (mkC_ok (gs := [(43, g43)]) (is := [(50, i50)]) (mt := mtL) tysOK elemOK ⟨meets43, trivial⟩ ⟨inl50, trivial⟩ mtOK FUEL) mixed Try.func81 (by kernel_rfl) (by kernel_rfl) (by kernel_rfl) (of_decide_eq_true (by kernel_rfl)) (fun p => (p.1.1, p.2.1)) (fun _ _ => ⟨rfl, rfl⟩) ev81
def c62 (N : Nat) : Cx := mkC tyL [(81, g81)] [] mtL N
def g62 : Sig := ⟨(.cons (.ptr (.cons (.cons (.ptr (.cons (.own (.int .u64)) .nl)) .nl) .nl)) (.cons (.pure (.int .i64)) .nl)), (.cons (.pure .bool) .nl), (Bool × ((((List Int) × Unit) × Unit) × Unit)), fun x => m_arena_Arena_used x.1 x.2.1, fun _ y => (y.1, ()), fun _ y => (y.2, ((), ()))⟩
def an62 : Nat → Ann := mkA []
theorem ev62 : ∀ x : g62.ps.den, evalFn (c62 FUEL) an62 Try.f62 (codeOf Try.f62) g62 x (fun p => (p.1.1, p.2.1)) = g62.m x := by
  intro x
  obtain ⟨x0, x1, xu⟩ := x
  show _ = _
  kernel_rfl
theorem meets62 : Meets Try.prog 62 g62 :=
  meets_of (C := c62 FUEL) (ann := an62) (mkC_ok (gs := [(81, g81)]) (is := []) (mt := mtL) tysOK elemOK ⟨meets81, trivial⟩ trivial mtOK FUEL) mixed Try.func62 (by kernel_rfl) (by kernel_rfl) (by kernel_rfl) (of_decide_eq_true (by kernel_rfl)) (fun p => (p.1.1, p.2.1)) (fun _ _ => ⟨rfl, rfl⟩) ev62
noncomputable def c52 (N : Nat) : Cx := mkC tyL [(37, g37), (62, g62)] [(55, i55)] mtL N
def g52 : Sig := ⟨(.cons (.ptr (.cons (.cons (.ptr (.cons (.own (.int .u64)) .nl)) .nl) .nl)) (.cons (.pure (.int .i64)) (.cons (.pure .bool) .nl))), (.cons (.pure (.int .i64)) .nl), (Int × ((((List Int) × Unit) × Unit) × Unit)), fun x => m_arena_Arena_busy x.1 x.2.1 x.2.2.1, fun _ y => (y.1, ()), fun _ y => (y.2, ((), ((), ())))⟩
def an52 : Nat → Ann := mkA []
theorem ev52 : ∀ x : g52.ps.den, evalFn (c52 FUEL) an52 Try.f52 (codeOf Try.f52) g52 x (fun p => (p.1.1, p.2.1)) = g52.m x := by
  intro x
  obtain ⟨x0, x1, x2, xu⟩ := x
  show _ = _
  kernel_rfl
theorem meets52 : Meets Try.prog 52 g52 :=
  meets_of (C := c52 FUEL) (ann := an52) (mkC_ok (gs := [(37, g37), (62, g62)]) (is := [(55, i55)]) (mt := mtL) tysOK elemOK ⟨meets37, meets62, trivial⟩ ⟨inl55, trivial⟩ mtOK FUEL) mixed Try.func52 (by kernel_rfl) (by kernel_rfl) (by kernel_rfl) (of_decide_eq_true (by kernel_rfl)) (fun p => (p.1.1, p.2.1)) (fun _ _ => ⟨rfl, rfl⟩) ev52
noncomputable def c51 (N : Nat) : Cx := mkC tyL [(43, g43)] [(45, i45)] mtL N
def g51 : Sig := ⟨(.cons (.ptr (.cons (.cons (.ptr (.cons (.own (.int .u64)) .nl)) .nl) .nl)) (.cons (.pure (.int .i64)) (.cons (.pure (.arr 128 (.int .u64))) .nl))), .nl, ((((List Int) × Unit) × Unit) × Unit), fun x => m_arena_Arena_put x.1 x.2.1 x.2.2.1, fun _ y => (), fun _ y => (y, ((), ((), ())))⟩
def an51 : Nat → Ann := mkA [(2, ⟨[0, 1, 5, 6], [], [5, 100001], false, [(100001, [.fld 0], (.own (.int .u64)), 2001600016)]⟩)]
noncomputable def k51 (N : Nat) : Ex → St → Option ((((List Int) × Unit) × Unit) × Unit) := finK (c51 N) Try.f51 g51 (.cons (.ref 100000 []) (.cons .top (.cons .top .nl))) (fun p => p.2.1)
def a51 : Nat → Ann := annP [100000] an51
def h51_0 (u0_0 : Int) (u0_1 : Int) (u0_2 : (List Int)) (u0_3 : (List Int)) : St := ⟨22, [(0, (.ref 100000 [])), (1, (.int .i64 u0_0)), (5, (.ref 5 [])), (6, (.int .i64 u0_1))], [(100000, (.cons (.cons (.ref 100001 []) .nl) .nl)), (5, (.arr (.int .u64) 128 u0_2)), (100001, (.cons (.full 2001600016) .nl)), (2001600016, (.bk (.int .u64) u0_3))]⟩
theorem t51_0 : ∀ (N : Nat) (n : Nat) (u0_0 : Int) (u0_1 : Int) (u0_2 : (List Int)) (u0_3 : (List Int)), loopAt (c51 N) a51 [1, 1, 0] [] (codeOf Try.f51) (k51 N) n (h51_0 u0_0 u0_1 u0_2 u0_3) = m_arena_Arena_put_l0 N n u0_0 u0_1 u0_2 u0_3 := by
  intro N n
  induction n with
  | zero => intro u0_0 u0_1 u0_2 u0_3; kernel_rfl
  | succ n ih =>
    intro u0_0 u0_1 u0_2 u0_3
    have e : loopAt (c51 N) a51 [1, 1, 0] [] (codeOf Try.f51) (k51 N) (n + 1) (h51_0 u0_0 u0_1 u0_2 u0_3) = m_arena_Arena_put_l0_b (fun w0 w1 w2 w3 => loopAt (c51 N) a51 [1, 1, 0] [] (codeOf Try.f51) (k51 N) n (h51_0 w0 w1 w2 w3)) u0_0 u0_1 u0_2 u0_3 := by kernel_rfl
    refine e.trans ?_
    have es : (fun w0 w1 w2 w3 => loopAt (c51 N) a51 [1, 1, 0] [] (codeOf Try.f51) (k51 N) n (h51_0 w0 w1 w2 w3)) = m_arena_Arena_put_l0 N n := by
      funext w0 w1 w2 w3; exact ih w0 w1 w2 w3
    rw [es]
    rw [m_arena_Arena_put_l0]
theorem ew51 : ∀ (N : Nat) (x : g51.ps.den), evalFn (c51 N) an51 Try.f51 (codeOf Try.f51) g51 x (fun p => p.2.1) = m_arena_Arena_put_a (m_arena_Arena_put_l0 N N) x.1 x.2.1 x.2.2.1 := by
  intro N
  intro x
  obtain ⟨x0, x1, x2, xu⟩ := x
  have e : evalFn (c51 N) an51 Try.f51 (codeOf Try.f51) g51 (x0, x1, x2, xu) (fun p => p.2.1) = m_arena_Arena_put_a (fun w0 w1 w2 w3 => loopAt (c51 N) a51 [1, 1, 0] [] (codeOf Try.f51) (k51 N) N (h51_0 w0 w1 w2 w3)) x0 x1 x2 := by kernel_rfl
  refine e.trans ?_
  have e0 : (fun w0 w1 w2 w3 => loopAt (c51 N) a51 [1, 1, 0] [] (codeOf Try.f51) (k51 N) N (h51_0 w0 w1 w2 w3)) = m_arena_Arena_put_l0 N N := by
    funext w0 w1 w2 w3; exact t51_0 N N w0 w1 w2 w3
  rw [e0]
theorem ev51 : ∀ x : g51.ps.den, evalFn (c51 FUEL) an51 Try.f51 (codeOf Try.f51) g51 x (fun p => p.2.1) = g51.m x := fun x => ew51 FUEL x
theorem meets51 : Meets Try.prog 51 g51 :=
  meets_of (C := c51 FUEL) (ann := an51) (mkC_ok (gs := [(43, g43)]) (is := [(45, i45)]) (mt := mtL) tysOK elemOK ⟨meets43, trivial⟩ ⟨inl45, trivial⟩ mtOK FUEL) mixed Try.func51 (by kernel_rfl) (by kernel_rfl) (by kernel_rfl) (of_decide_eq_true (by kernel_rfl)) (fun p => p.2.1) (fun _ _ => ⟨rfl, rfl⟩) ev51
noncomputable def c53 (N : Nat) : Cx := mkC tyL [(51, g51)] [(45, i45), (50, i50)] mtL N
def g53 : Sig := ⟨(.cons (.ptr (.cons (.cons (.ptr (.cons (.own (.int .u64)) .nl)) .nl) .nl)) (.cons (.pure (.int .i64)) .nl)), .nl, ((((List Int) × Unit) × Unit) × Unit), fun x => m_arena_Arena_free x.1 x.2.1, fun _ y => (), fun _ y => (y, ((), ()))⟩
def an53 : Nat → Ann := mkA []
theorem ev53 : ∀ x : g53.ps.den, evalFn (c53 FUEL) an53 Try.f53 (codeOf Try.f53) g53 x (fun p => p.2.1) = g53.m x := by
  intro x
  obtain ⟨x0, x1, xu⟩ := x
  show _ = _
  kernel_rfl
theorem meets53 : Meets Try.prog 53 g53 :=
  meets_of (C := c53 FUEL) (ann := an53) (mkC_ok (gs := [(51, g51)]) (is := [(45, i45), (50, i50)]) (mt := mtL) tysOK elemOK ⟨meets51, trivial⟩ ⟨inl45, inl50, trivial⟩ mtOK FUEL) mixed Try.func53 (by kernel_rfl) (by kernel_rfl) (by kernel_rfl) (of_decide_eq_true (by kernel_rfl)) (fun p => p.2.1) (fun _ _ => ⟨rfl, rfl⟩) ev53
def c15 (N : Nat) : Cx := mkC tyL [(52, g52), (53, g53)] [] mtL N
def g15 : Sig := ⟨(.cons (.ptr (.cons (.cons (.ptr (.cons (.own (.int .u64)) .nl)) .nl) .nl)) (.cons (.pure (.int .i64)) .nl)), (.cons (.pure (.int .i64)) .nl), (Int × ((((List Int) × Unit) × Unit) × Unit)), fun x => m_arena_Arena_Release x.1 x.2.1, fun _ y => (y.1, ()), fun _ y => (y.2, ((), ()))⟩
def an15 : Nat → Ann := mkA []
theorem ev15 : ∀ x : g15.ps.den, evalFn (c15 FUEL) an15 Try.f15 (codeOf Try.f15) g15 x (fun p => (p.1.1, p.2.1)) = g15.m x := by
  intro x
  obtain ⟨x0, x1, xu⟩ := x
  show _ = _
  kernel_rfl
theorem meets15 : Meets Try.prog 15 g15 :=
  meets_of (C := c15 FUEL) (ann := an15) (mkC_ok (gs := [(52, g52), (53, g53)]) (is := []) (mt := mtL) tysOK elemOK ⟨meets52, meets53, trivial⟩ trivial mtOK FUEL) mixed Try.func15 (by kernel_rfl) (by kernel_rfl) (by kernel_rfl) (of_decide_eq_true (by kernel_rfl)) (fun p => (p.1.1, p.2.1)) (fun _ _ => ⟨rfl, rfl⟩) ev15
def c93 (N : Nat) : Cx := mkC tyL [] [] mtL N
def g93 : Sig := ⟨(.cons (.pure (.int .i64)) .nl), (.cons (.pure (.int .i64)) .nl), Int, fun x => m_keys_Words x.1, fun _ y => (y, ()), fun _ y => ((), ())⟩
def an93 : Nat → Ann := mkA []
theorem ev93 : ∀ x : g93.ps.den, evalFn (c93 FUEL) an93 Try.f93 (codeOf Try.f93) g93 x (fun p => p.1.1) = g93.m x := by
  intro x
  obtain ⟨x0, xu⟩ := x
  show _ = _
  kernel_rfl
theorem meets93 : Meets Try.prog 93 g93 :=
  meets_of (C := c93 FUEL) (ann := an93) (mkC_ok (gs := []) (is := []) (mt := mtL) tysOK elemOK trivial trivial mtOK FUEL) mixed Try.func93 (by kernel_rfl) (by kernel_rfl) (by kernel_rfl) (of_decide_eq_true (by kernel_rfl)) (fun p => p.1.1) (fun _ _ => ⟨rfl, rfl⟩) ev93
def c94 (N : Nat) : Cx := mkC tyL [(93, g93)] [] mtL N
def g94 : Sig := ⟨(.cons (.pure (.sl (.int .u64))) (.cons (.pure (.int .i64)) .nl)), (.cons (.pure .str) (.cons (.pure (.int .i64)) .nl)), (ByteArray × Int), fun x => m_keys_Unpack x.1 x.2.1, fun _ y => (y.1, (y.2, ())), fun _ y => ((), ((), ()))⟩
def an94 : Nat → Ann := mkA [(9, ⟨[1, 24, 25, 26], [(6, (.own (.int .u8)), 300006)], [], false, []⟩), (12, ⟨[1, 8, 9, 24, 25, 26], [(6, (.own (.int .u8)), 300006)], [], false, []⟩), (17, ⟨[1, 6, 45, 46, 47], [], [300006], false, []⟩)]
noncomputable def k94 (N : Nat) : Ex → St → Option (ByteArray × Int) := finK (c94 N) Try.f94 g94 (.cons .top (.cons .top .nl)) (fun p => (p.1.1, p.1.2.1))
def a94 : Nat → Ann := annP [] an94
def h94_1 (u1_0 : Int) (u1_1 : Int) (u1_2 : Int) (u1_3 : (List Int)) (u1_4 : Int) (u1_5 : Int) (u1_6 : (List Int)) : St := ⟨58, [(6, .full 300006), (1, (.int .i64 u1_0)), (8, (.int .u64 u1_1)), (9, (.int .i64 u1_2)), (24, (.lst (.int .u64) u1_3)), (25, (.int .i64 u1_4)), (26, (.int .i64 u1_5))], [(300006, (.bk (.int .u8) u1_6))]⟩
def h94_2 (u2_0 : Int) (u2_1 : Int) (u2_2 : Int) (u2_3 : Int) (u2_4 : Int) (u2_5 : (List Int)) : St := ⟨58, [(1, (.int .i64 u2_0)), (6, (.full 300006)), (45, (.view 300006 [] u2_1 u2_2)), (46, (.int .i64 u2_3)), (47, (.int .i64 u2_4))], [(300006, (.bk (.int .u8) u2_5))]⟩
def h94_0 (u0_0 : Int) (u0_1 : (List Int)) (u0_2 : Int) (u0_3 : Int) (u0_4 : (List Int)) : St := ⟨58, [(6, .full 300006), (1, (.int .i64 u0_0)), (24, (.lst (.int .u64) u0_1)), (25, (.int .i64 u0_2)), (26, (.int .i64 u0_3))], [(300006, (.bk (.int .u8) u0_4))]⟩
theorem t94_1 : ∀ (N : Nat) (m0 : Nat) (n : Nat) (u1_0 : Int) (u1_1 : Int) (u1_2 : Int) (u1_3 : (List Int)) (u1_4 : Int) (u1_5 : Int) (u1_6 : (List Int)), loopAt (c94 N) a94 [1, 1, 1, 0, 1, 0, 0, 1, 1, 0, 0, 1, 1, 0] [m0] (codeOf Try.f94) (k94 N) n (h94_1 u1_0 u1_1 u1_2 u1_3 u1_4 u1_5 u1_6) = m_keys_Unpack_l1 N (fun w0 w1 w2 w3 w4 => loopAt (c94 N) a94 [1, 1, 1, 0, 1, 0] [] (codeOf Try.f94) (k94 N) m0 (h94_0 w0 w1 w2 w3 w4)) n u1_0 u1_1 u1_2 u1_3 u1_4 u1_5 u1_6 := by
  intro N m0 n
  induction n with
  | zero => intro u1_0 u1_1 u1_2 u1_3 u1_4 u1_5 u1_6; kernel_rfl
  | succ n ih =>
    intro u1_0 u1_1 u1_2 u1_3 u1_4 u1_5 u1_6
    have e : loopAt (c94 N) a94 [1, 1, 1, 0, 1, 0, 0, 1, 1, 0, 0, 1, 1, 0] [m0] (codeOf Try.f94) (k94 N) (n + 1) (h94_1 u1_0 u1_1 u1_2 u1_3 u1_4 u1_5 u1_6) = m_keys_Unpack_l1_b (fun w0 w1 w2 w3 w4 => loopAt (c94 N) a94 [1, 1, 1, 0, 1, 0] [] (codeOf Try.f94) (k94 N) m0 (h94_0 w0 w1 w2 w3 w4)) (fun w0 w1 w2 w3 w4 w5 w6 => loopAt (c94 N) a94 [1, 1, 1, 0, 1, 0, 0, 1, 1, 0, 0, 1, 1, 0] [m0] (codeOf Try.f94) (k94 N) n (h94_1 w0 w1 w2 w3 w4 w5 w6)) u1_0 u1_1 u1_2 u1_3 u1_4 u1_5 u1_6 := by kernel_rfl
    refine e.trans ?_
    have es : (fun w0 w1 w2 w3 w4 w5 w6 => loopAt (c94 N) a94 [1, 1, 1, 0, 1, 0, 0, 1, 1, 0, 0, 1, 1, 0] [m0] (codeOf Try.f94) (k94 N) n (h94_1 w0 w1 w2 w3 w4 w5 w6)) = m_keys_Unpack_l1 N (fun w0 w1 w2 w3 w4 => loopAt (c94 N) a94 [1, 1, 1, 0, 1, 0] [] (codeOf Try.f94) (k94 N) m0 (h94_0 w0 w1 w2 w3 w4)) n := by
      funext w0 w1 w2 w3 w4 w5 w6; exact ih w0 w1 w2 w3 w4 w5 w6
    rw [es]
    rw [m_keys_Unpack_l1]
theorem t94_2 : ∀ (N : Nat) (n : Nat) (u2_0 : Int) (u2_1 : Int) (u2_2 : Int) (u2_3 : Int) (u2_4 : Int) (u2_5 : (List Int)), loopAt (c94 N) a94 [1, 1, 1, 1, 0, 1, 0] [] (codeOf Try.f94) (k94 N) n (h94_2 u2_0 u2_1 u2_2 u2_3 u2_4 u2_5) = m_keys_Unpack_l2 N n u2_0 u2_1 u2_2 u2_3 u2_4 u2_5 := by
  intro N n
  induction n with
  | zero => intro u2_0 u2_1 u2_2 u2_3 u2_4 u2_5; kernel_rfl
  | succ n ih =>
    intro u2_0 u2_1 u2_2 u2_3 u2_4 u2_5
    have e : loopAt (c94 N) a94 [1, 1, 1, 1, 0, 1, 0] [] (codeOf Try.f94) (k94 N) (n + 1) (h94_2 u2_0 u2_1 u2_2 u2_3 u2_4 u2_5) = m_keys_Unpack_l2_b (fun w0 w1 w2 w3 w4 w5 => loopAt (c94 N) a94 [1, 1, 1, 1, 0, 1, 0] [] (codeOf Try.f94) (k94 N) n (h94_2 w0 w1 w2 w3 w4 w5)) u2_0 u2_1 u2_2 u2_3 u2_4 u2_5 := by kernel_rfl
    refine e.trans ?_
    have es : (fun w0 w1 w2 w3 w4 w5 => loopAt (c94 N) a94 [1, 1, 1, 1, 0, 1, 0] [] (codeOf Try.f94) (k94 N) n (h94_2 w0 w1 w2 w3 w4 w5)) = m_keys_Unpack_l2 N n := by
      funext w0 w1 w2 w3 w4 w5; exact ih w0 w1 w2 w3 w4 w5
    rw [es]
    rw [m_keys_Unpack_l2]
theorem t94_0 : ∀ (N : Nat) (n : Nat) (u0_0 : Int) (u0_1 : (List Int)) (u0_2 : Int) (u0_3 : Int) (u0_4 : (List Int)), loopAt (c94 N) a94 [1, 1, 1, 0, 1, 0] [] (codeOf Try.f94) (k94 N) n (h94_0 u0_0 u0_1 u0_2 u0_3 u0_4) = m_keys_Unpack_l0 N n u0_0 u0_1 u0_2 u0_3 u0_4 := by
  intro N n
  induction n with
  | zero => intro u0_0 u0_1 u0_2 u0_3 u0_4; kernel_rfl
  | succ n ih =>
    intro u0_0 u0_1 u0_2 u0_3 u0_4
    have e : loopAt (c94 N) a94 [1, 1, 1, 0, 1, 0] [] (codeOf Try.f94) (k94 N) (n + 1) (h94_0 u0_0 u0_1 u0_2 u0_3 u0_4) = m_keys_Unpack_l0_b (fun w0 w1 w2 w3 w4 => loopAt (c94 N) a94 [1, 1, 1, 0, 1, 0] [] (codeOf Try.f94) (k94 N) n (h94_0 w0 w1 w2 w3 w4)) (fun w0 w1 w2 w3 w4 w5 w6 => loopAt (c94 N) a94 [1, 1, 1, 0, 1, 0, 0, 1, 1, 0, 0, 1, 1, 0] [n] (codeOf Try.f94) (k94 N) N (h94_1 w0 w1 w2 w3 w4 w5 w6)) (fun w0 w1 w2 w3 w4 w5 => loopAt (c94 N) a94 [1, 1, 1, 1, 0, 1, 0] [] (codeOf Try.f94) (k94 N) N (h94_2 w0 w1 w2 w3 w4 w5)) u0_0 u0_1 u0_2 u0_3 u0_4 := by kernel_rfl
    refine e.trans ?_
    have e1 : (fun w0 w1 w2 w3 w4 w5 w6 => loopAt (c94 N) a94 [1, 1, 1, 0, 1, 0, 0, 1, 1, 0, 0, 1, 1, 0] [n] (codeOf Try.f94) (k94 N) N (h94_1 w0 w1 w2 w3 w4 w5 w6)) = m_keys_Unpack_l1 N (fun w0 w1 w2 w3 w4 => loopAt (c94 N) a94 [1, 1, 1, 0, 1, 0] [] (codeOf Try.f94) (k94 N) n (h94_0 w0 w1 w2 w3 w4)) N := by
      funext w0 w1 w2 w3 w4 w5 w6; exact t94_1 N n N w0 w1 w2 w3 w4 w5 w6
    rw [e1]
    have e2 : (fun w0 w1 w2 w3 w4 w5 => loopAt (c94 N) a94 [1, 1, 1, 1, 0, 1, 0] [] (codeOf Try.f94) (k94 N) N (h94_2 w0 w1 w2 w3 w4 w5)) = m_keys_Unpack_l2 N N := by
      funext w0 w1 w2 w3 w4 w5; exact t94_2 N N w0 w1 w2 w3 w4 w5
    rw [e2]
    have es : (fun w0 w1 w2 w3 w4 => loopAt (c94 N) a94 [1, 1, 1, 0, 1, 0] [] (codeOf Try.f94) (k94 N) n (h94_0 w0 w1 w2 w3 w4)) = m_keys_Unpack_l0 N n := by
      funext w0 w1 w2 w3 w4; exact ih w0 w1 w2 w3 w4
    rw [es]
    rw [m_keys_Unpack_l0]
theorem ew94 : ∀ (N : Nat) (x : g94.ps.den), evalFn (c94 N) an94 Try.f94 (codeOf Try.f94) g94 x (fun p => (p.1.1, p.1.2.1)) = m_keys_Unpack_a (m_keys_Unpack_l0 N N) x.1 x.2.1 := by
  intro N
  intro x
  obtain ⟨x0, x1, xu⟩ := x
  have e : evalFn (c94 N) an94 Try.f94 (codeOf Try.f94) g94 (x0, x1, xu) (fun p => (p.1.1, p.1.2.1)) = m_keys_Unpack_a (fun w0 w1 w2 w3 w4 => loopAt (c94 N) a94 [1, 1, 1, 0, 1, 0] [] (codeOf Try.f94) (k94 N) N (h94_0 w0 w1 w2 w3 w4)) x0 x1 := by kernel_rfl
  refine e.trans ?_
  have e0 : (fun w0 w1 w2 w3 w4 => loopAt (c94 N) a94 [1, 1, 1, 0, 1, 0] [] (codeOf Try.f94) (k94 N) N (h94_0 w0 w1 w2 w3 w4)) = m_keys_Unpack_l0 N N := by
    funext w0 w1 w2 w3 w4; exact t94_0 N N w0 w1 w2 w3 w4
  rw [e0]
theorem ev94 : ∀ x : g94.ps.den, evalFn (c94 FUEL) an94 Try.f94 (codeOf Try.f94) g94 x (fun p => (p.1.1, p.1.2.1)) = g94.m x := fun x => ew94 FUEL x
theorem meets94 : Meets Try.prog 94 g94 :=
  meets_of (C := c94 FUEL) (ann := an94) (mkC_ok (gs := [(93, g93)]) (is := []) (mt := mtL) tysOK elemOK ⟨meets93, trivial⟩ trivial mtOK FUEL) mixed Try.func94 (by kernel_rfl) (by kernel_rfl) (by kernel_rfl) (of_decide_eq_true (by kernel_rfl)) (fun p => (p.1.1, p.1.2.1)) (fun _ _ => ⟨rfl, rfl⟩) ev94
def c92 (N : Nat) : Cx := mkC tyL [(93, g93), (94, g94)] [] mtL N
def g92 : Sig := ⟨(.cons (.rptr (.arr 128 (.int .u64))) (.cons (.pure (.int .i64)) .nl)), (.cons (.pure .str) (.cons (.pure (.int .i64)) .nl)), (ByteArray × Int), fun x => m_slot_fence x.1 x.2.1, fun _ y => (y.1, (y.2, ())), fun _ y => ((), ((), ()))⟩
def an92 : Nat → Ann := mkA [(6, ⟨[0, 1, 6, 7, 32, 33, 34], [], [], false, []⟩)]
noncomputable def k92 (N : Nat) : Ex → St → Option (ByteArray × Int) := finK (c92 N) Try.f92 g92 (.cons .top (.cons .top .nl)) (fun p => (p.1.1, p.1.2.1))
def a92 : Nat → Ann := annP [] an92
def h92_0 (u0_0 : (List Int)) (u0_1 : Int) (u0_2 : Int) (u0_3 : Int) (u0_4 : (List Int)) (u0_5 : Int) (u0_6 : Int) : St := ⟨51, [(0, (.pref (.arr 128 (.int .u64)) u0_0)), (1, (.int .i64 u0_1)), (6, (.int .i64 u0_2)), (7, (.int .i64 u0_3)), (32, (.lst (.int .u64) u0_4)), (33, (.int .i64 u0_5)), (34, (.int .i64 u0_6))], []⟩
theorem t92_0 : ∀ (N : Nat) (n : Nat) (u0_0 : (List Int)) (u0_1 : Int) (u0_2 : Int) (u0_3 : Int) (u0_4 : (List Int)) (u0_5 : Int) (u0_6 : Int), loopAt (c92 N) a92 [1, 1, 1, 1, 0, 1, 0] [] (codeOf Try.f92) (k92 N) n (h92_0 u0_0 u0_1 u0_2 u0_3 u0_4 u0_5 u0_6) = m_slot_fence_l0 N n u0_0 u0_1 u0_2 u0_3 u0_4 u0_5 u0_6 := by
  intro N n
  induction n with
  | zero => intro u0_0 u0_1 u0_2 u0_3 u0_4 u0_5 u0_6; kernel_rfl
  | succ n ih =>
    intro u0_0 u0_1 u0_2 u0_3 u0_4 u0_5 u0_6
    have e : loopAt (c92 N) a92 [1, 1, 1, 1, 0, 1, 0] [] (codeOf Try.f92) (k92 N) (n + 1) (h92_0 u0_0 u0_1 u0_2 u0_3 u0_4 u0_5 u0_6) = m_slot_fence_l0_b (fun w0 w1 w2 w3 w4 w5 w6 => loopAt (c92 N) a92 [1, 1, 1, 1, 0, 1, 0] [] (codeOf Try.f92) (k92 N) n (h92_0 w0 w1 w2 w3 w4 w5 w6)) u0_0 u0_1 u0_2 u0_3 u0_4 u0_5 u0_6 := by kernel_rfl
    refine e.trans ?_
    have es : (fun w0 w1 w2 w3 w4 w5 w6 => loopAt (c92 N) a92 [1, 1, 1, 1, 0, 1, 0] [] (codeOf Try.f92) (k92 N) n (h92_0 w0 w1 w2 w3 w4 w5 w6)) = m_slot_fence_l0 N n := by
      funext w0 w1 w2 w3 w4 w5 w6; exact ih w0 w1 w2 w3 w4 w5 w6
    rw [es]
    rw [m_slot_fence_l0]
theorem ew92 : ∀ (N : Nat) (x : g92.ps.den), evalFn (c92 N) an92 Try.f92 (codeOf Try.f92) g92 x (fun p => (p.1.1, p.1.2.1)) = m_slot_fence_a (m_slot_fence_l0 N N) x.1 x.2.1 := by
  intro N
  intro x
  obtain ⟨x0, x1, xu⟩ := x
  have e : evalFn (c92 N) an92 Try.f92 (codeOf Try.f92) g92 (x0, x1, xu) (fun p => (p.1.1, p.1.2.1)) = m_slot_fence_a (fun w0 w1 w2 w3 w4 w5 w6 => loopAt (c92 N) a92 [1, 1, 1, 1, 0, 1, 0] [] (codeOf Try.f92) (k92 N) N (h92_0 w0 w1 w2 w3 w4 w5 w6)) x0 x1 := by kernel_rfl
  refine e.trans ?_
  have e0 : (fun w0 w1 w2 w3 w4 w5 w6 => loopAt (c92 N) a92 [1, 1, 1, 1, 0, 1, 0] [] (codeOf Try.f92) (k92 N) N (h92_0 w0 w1 w2 w3 w4 w5 w6)) = m_slot_fence_l0 N N := by
    funext w0 w1 w2 w3 w4 w5 w6; exact t92_0 N N w0 w1 w2 w3 w4 w5 w6
  rw [e0]
theorem ev92 : ∀ x : g92.ps.den, evalFn (c92 FUEL) an92 Try.f92 (codeOf Try.f92) g92 x (fun p => (p.1.1, p.1.2.1)) = g92.m x := fun x => ew92 FUEL x
theorem meets92 : Meets Try.prog 92 g92 :=
  meets_of (C := c92 FUEL) (ann := an92) (mkC_ok (gs := [(93, g93), (94, g94)]) (is := []) (mt := mtL) tysOK elemOK ⟨meets93, meets94, trivial⟩ trivial mtOK FUEL) mixed Try.func92 (by kernel_rfl) (by kernel_rfl) (by kernel_rfl) (of_decide_eq_true (by kernel_rfl)) (fun p => (p.1.1, p.1.2.1)) (fun _ _ => ⟨rfl, rfl⟩) ev92
def c88 (N : Nat) : Cx := mkC tyL [(92, g92)] [] mtL N
def g88 : Sig := ⟨(.cons (.rptr (.arr 128 (.int .u64))) .nl), (.cons (.pure .bool) .nl), Bool, fun x => m_slot_head x.1, fun _ y => (y, ()), fun _ y => ((), ())⟩
def an88 : Nat → Ann := mkA []
theorem ev88 : ∀ x : g88.ps.den, evalFn (c88 FUEL) an88 Try.f88 (codeOf Try.f88) g88 x (fun p => p.1.1) = g88.m x := by
  intro x
  obtain ⟨x0, xu⟩ := x
  show _ = _
  kernel_rfl
theorem meets88 : Meets Try.prog 88 g88 :=
  meets_of (C := c88 FUEL) (ann := an88) (mkC_ok (gs := [(92, g92)]) (is := []) (mt := mtL) tysOK elemOK ⟨meets92, trivial⟩ trivial mtOK FUEL) mixed Try.func88 (by kernel_rfl) (by kernel_rfl) (by kernel_rfl) (of_decide_eq_true (by kernel_rfl)) (fun p => p.1.1) (fun _ _ => ⟨rfl, rfl⟩) ev88
def c90 (N : Nat) : Cx := mkC tyL [(93, g93)] [] mtL N
def g90 : Sig := ⟨(.cons (.pure (.int .u64)) .nl), (.cons (.pure (.pair (.int .i64) (.pair (.int .i64) (.pair (.int .i64) (.pair (.int .i64) (.pair (.int .i64) .nl)))))) .nl), (Int × (Int × (Int × (Int × (Int × Unit))))), fun x => m_slot_entryOf x.1, fun _ y => (y, ()), fun _ y => ((), ())⟩
def an90 : Nat → Ann := mkA []
theorem ev90 : ∀ x : g90.ps.den, evalFn (c90 FUEL) an90 Try.f90 (codeOf Try.f90) g90 x (fun p => p.1.1) = g90.m x := by
  intro x
  obtain ⟨x0, xu⟩ := x
  show _ = _
  kernel_rfl
theorem meets90 : Meets Try.prog 90 g90 :=
  meets_of (C := c90 FUEL) (ann := an90) (mkC_ok (gs := [(93, g93)]) (is := []) (mt := mtL) tysOK elemOK ⟨meets93, trivial⟩ trivial mtOK FUEL) mixed Try.func90 (by kernel_rfl) (by kernel_rfl) (by kernel_rfl) (of_decide_eq_true (by kernel_rfl)) (fun p => p.1.1) (fun _ _ => ⟨rfl, rfl⟩) ev90
def c89 (N : Nat) : Cx := mkC tyL [(90, g90)] [] mtL N
def g89 : Sig := ⟨(.cons (.rptr (.arr 128 (.int .u64))) (.cons (.pure (.int .i64)) .nl)), (.cons (.pure .bool) .nl), Bool, fun x => m_slot_sized x.1 x.2.1, fun _ y => (y, ()), fun _ y => ((), ((), ()))⟩
def an89 : Nat → Ann := mkA []
theorem ev89 : ∀ x : g89.ps.den, evalFn (c89 FUEL) an89 Try.f89 (codeOf Try.f89) g89 x (fun p => p.1.1) = g89.m x := by
  intro x
  obtain ⟨x0, x1, xu⟩ := x
  show _ = _
  kernel_rfl
theorem meets89 : Meets Try.prog 89 g89 :=
  meets_of (C := c89 FUEL) (ann := an89) (mkC_ok (gs := [(90, g90)]) (is := []) (mt := mtL) tysOK elemOK ⟨meets90, trivial⟩ trivial mtOK FUEL) mixed Try.func89 (by kernel_rfl) (by kernel_rfl) (by kernel_rfl) (of_decide_eq_true (by kernel_rfl)) (fun p => p.1.1) (fun _ _ => ⟨rfl, rfl⟩) ev89
def c91 (N : Nat) : Cx := mkC tyL [(94, g94)] [] mtL N
def g91 : Sig := ⟨(.cons (.rptr (.arr 128 (.int .u64))) (.cons (.pure (.pair (.int .i64) (.pair (.int .i64) (.pair (.int .i64) (.pair (.int .i64) (.pair (.int .i64) .nl)))))) .nl)), (.cons (.pure (.pair .str (.pair .str .nl))) (.cons (.pure (.int .i64)) .nl)), ((ByteArray × (ByteArray × Unit)) × Int), fun x => m_slot_text x.1 x.2.1, fun _ y => (y.1, (y.2, ())), fun _ y => ((), ((), ()))⟩
def an91 : Nat → Ann := mkA []
theorem ev91 : ∀ x : g91.ps.den, evalFn (c91 FUEL) an91 Try.f91 (codeOf Try.f91) g91 x (fun p => (p.1.1, p.1.2.1)) = g91.m x := by
  intro x
  obtain ⟨x0, x1, xu⟩ := x
  show _ = _
  kernel_rfl
theorem meets91 : Meets Try.prog 91 g91 :=
  meets_of (C := c91 FUEL) (ann := an91) (mkC_ok (gs := [(94, g94)]) (is := []) (mt := mtL) tysOK elemOK ⟨meets94, trivial⟩ trivial mtOK FUEL) mixed Try.func91 (by kernel_rfl) (by kernel_rfl) (by kernel_rfl) (of_decide_eq_true (by kernel_rfl)) (fun p => (p.1.1, p.1.2.1)) (fun _ _ => ⟨rfl, rfl⟩) ev91

end Go.Proofs.Ytbmdoalneeeonaa
