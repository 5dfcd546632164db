/- A part of the proof of a statement of this seat: the functions keep their promises. No condition. -/
import Derived.Test.YtiknbfledplnlaaPN33H
set_option linter.unusedVariables false
set_option maxRecDepth 100000
namespace Go.Proofs.Ytiknbfledplnlaa
open Go Go.Ev Go.Ev.M Go.Proofs
def g75 : Sig := gCmp
theorem meets75 : Meets Try.prog 75 g75 := meets_cmp (fn := Try.f75) Try.func75 (by kernel_rfl) (by kernel_rfl) (by kernel_rfl) (by kernel_rfl)
def c37 (N : Nat) : Cx := mkC tyL [] [] mtL N
noncomputable def i37 : List AV → Nat → Pg AV := inlPg (c37 0) Try.f37 (codeOf Try.f37)
theorem inl37 : Inlines Try.prog 37 i37 := inlines (C := c37 0) (mkC_ok (gs := []) (is := []) (mt := mtL) tysOK elemOK trivial trivial mtOK 0) mixed Try.func37 (by kernel_rfl) (by kernel_rfl)
noncomputable def c39 (N : Nat) : Cx := mkC tyL [] [(37, i37)] mtL N
def g39 : Sig := ⟨(.cons (.ptr (.cons (.own (.int .u64)) .nl)) (.cons (.pure (.pair (.int .i64) (.pair (.int .i64) (.pair (.int .u64) (.pair (.int .u64) .nl))))) .nl)), (.cons (.pure (.pair (.int .i64) (.pair (.int .i64) (.pair (.int .u64) (.pair (.int .u64) .nl))))) (.cons (.pure (.int .i64)) .nl)), ((Int × (Int × (Int × (Int × Unit)))) × Int × ((List Int) × Unit)), fun x => m_mem_Mem_Do x.1 x.2.1, fun _ y => (y.1, (y.2.1, ())), fun _ y => (y.2.2, ((), ()))⟩
def an39 : Nat → Ann := mkA []
theorem ev39 : ∀ x : g39.ps.den, evalFn (c39 FUEL) an39 Try.f39 (codeOf Try.f39) g39 x (fun p => (p.1.1, p.1.2.1, p.2.1)) = g39.m x := by
  intro x
  obtain ⟨x0, x1, xu⟩ := x
  show _ = _
  kernel_rfl
theorem meets39 : Meets Try.prog 39 g39 :=
  meets_of (C := c39 FUEL) (ann := an39) (mkC_ok (gs := []) (is := [(37, i37)]) (mt := mtL) tysOK elemOK trivial ⟨inl37, trivial⟩ mtOK FUEL) mixed Try.func39 (by kernel_rfl) (by kernel_rfl) (by kernel_rfl) (of_decide_eq_true (by kernel_rfl)) (fun p => (p.1.1, p.1.2.1, p.2.1)) (fun _ _ => ⟨rfl, rfl⟩) ev39
def c62 (N : Nat) : Cx := mkC tyL [(39, g39)] [] mtL N
def g62 : Sig := ⟨(.cons (.ptr (.cons (.own (.int .u64)) .nl)) (.cons (.pure (.int .i64)) .nl)), (.cons (.pure (.int .u64)) (.cons (.pure (.int .i64)) .nl)), (Int × Int × ((List Int) × Unit)), fun x => m_mem_Mem_Load x.1 x.2.1, fun _ y => (y.1, (y.2.1, ())), fun _ y => (y.2.2, ((), ()))⟩
def an62 : Nat → Ann := mkA []
theorem ev62 : ∀ x : g62.ps.den, evalFn (c62 FUEL) an62 Try.f62 (codeOf Try.f62) g62 x (fun p => (p.1.1, p.1.2.1, p.2.1)) = g62.m x := by
  intro x
  obtain ⟨x0, x1, xu⟩ := x
  show _ = _
  kernel_rfl
theorem meets62 : Meets Try.prog 62 g62 :=
  meets_of (C := c62 FUEL) (ann := an62) (mkC_ok (gs := [(39, g39)]) (is := []) (mt := mtL) tysOK elemOK ⟨meets39, trivial⟩ trivial mtOK FUEL) mixed Try.func62 (by kernel_rfl) (by kernel_rfl) (by kernel_rfl) (of_decide_eq_true (by kernel_rfl)) (fun p => (p.1.1, p.1.2.1, p.2.1)) (fun _ _ => ⟨rfl, rfl⟩) ev62
def c16 (N : Nat) : Cx := mkC tyL [(39, g39)] [] mtL N
def g16 : Sig := ⟨(.cons (.ptr (.cons (.own (.int .u64)) .nl)) (.cons (.pure (.int .i64)) (.cons (.pure (.int .u64)) .nl))), (.cons (.pure (.int .i64)) .nl), (Int × ((List Int) × Unit)), fun x => m_mem_Mem_Store x.1 x.2.1 x.2.2.1, fun _ y => (y.1, ()), fun _ y => (y.2, ((), ((), ())))⟩
def an16 : Nat → Ann := mkA []
theorem ev16 : ∀ x : g16.ps.den, evalFn (c16 FUEL) an16 Try.f16 (codeOf Try.f16) g16 x (fun p => (p.1.1, p.2.1)) = g16.m x := by
  intro x
  obtain ⟨x0, x1, x2, xu⟩ := x
  show _ = _
  kernel_rfl
theorem meets16 : Meets Try.prog 16 g16 :=
  meets_of (C := c16 FUEL) (ann := an16) (mkC_ok (gs := [(39, g39)]) (is := []) (mt := mtL) tysOK elemOK ⟨meets39, trivial⟩ trivial mtOK FUEL) mixed Try.func16 (by kernel_rfl) (by kernel_rfl) (by kernel_rfl) (of_decide_eq_true (by kernel_rfl)) (fun p => (p.1.1, p.2.1)) (fun _ _ => ⟨rfl, rfl⟩) ev16
def c58 (N : Nat) : Cx := mkC tyL [] [] mtL N
noncomputable def i58 : List AV → Nat → Pg AV := inlPg (c58 0) Try.f58 (codeOf Try.f58)
theorem inl58 : Inlines Try.prog 58 i58 := inlines (C := c58 0) (mkC_ok (gs := []) (is := []) (mt := mtL) tysOK elemOK trivial trivial mtOK 0) mixed Try.func58 (by kernel_rfl) (by kernel_rfl)
noncomputable def c98 (N : Nat) : Cx := mkC tyL [(39, g39)] [(58, i58)] mtL N
noncomputable def i98 : List AV → Nat → Pg AV := inlPg (c98 0) Try.f98 (codeOf Try.f98)
theorem inl98 : Inlines Try.prog 98 i98 := inlines (C := c98 0) (mkC_ok (gs := [(39, g39)]) (is := [(58, i58)]) (mt := mtL) tysOK elemOK ⟨meets39, trivial⟩ ⟨inl58, trivial⟩ mtOK 0) mixed Try.func98 (by kernel_rfl) (by kernel_rfl)
noncomputable def c95 (N : Nat) : Cx := mkC tyL [] [(98, i98)] mtL N
noncomputable def i95 : List AV → Nat → Pg AV := inlPg (c95 0) Try.f95 (codeOf Try.f95)
theorem inl95 : Inlines Try.prog 95 i95 := inlines (C := c95 0) (mkC_ok (gs := []) (is := [(98, i98)]) (mt := mtL) tysOK elemOK trivial ⟨inl98, trivial⟩ mtOK 0) mixed Try.func95 (by kernel_rfl) (by kernel_rfl)
def c11 (N : Nat) : Cx := mkC tyL [] [] mtL N
def g11 : Sig := ⟨(.cons (.pure (.int .i64)) .nl), (.cons (.nptr (.cons (.own (.int .u64)) .nl)) (.cons (.pure (.int .i64)) .nl)), ((Option ((List Int) × Unit)) × Int), fun x => m_mem_New x.1, fun _ y => (y.1, (y.2, ())), fun _ y => ((), ())⟩
def an11 : Nat → Ann := mkA []
theorem ev11 : ∀ x : g11.ps.den, evalFn (c11 FUEL) an11 Try.f11 (codeOf Try.f11) g11 x (fun p => (p.1.1, p.1.2.1)) = g11.m x := by
  intro x
  obtain ⟨x0, xu⟩ := x
  show _ = _
  kernel_rfl
theorem meets11 : Meets Try.prog 11 g11 :=
  meets_of (C := c11 FUEL) (ann := an11) (mkC_ok (gs := []) (is := []) (mt := mtL) tysOK elemOK trivial trivial mtOK FUEL) mixed Try.func11 (by kernel_rfl) (by kernel_rfl) (by kernel_rfl) (of_decide_eq_true (by kernel_rfl)) (fun p => (p.1.1, p.1.2.1)) (fun _ _ => ⟨rfl, rfl⟩) ev11
def c46 (N : Nat) : Cx := mkC tyL [] [] mtL N
def g46 : Sig := ⟨(.cons (.pure (.pair (.int .i64) (.pair (.int .i64) .nl))) .nl), (.cons (.pure .bool) .nl), Bool, fun x => m_descend_valid x.1, fun _ y => (y, ()), fun _ y => ((), ())⟩
def an46 : Nat → Ann := mkA []
theorem ev46 : ∀ x : g46.ps.den, evalFn (c46 FUEL) an46 Try.f46 (codeOf Try.f46) g46 x (fun p => p.1.1) = g46.m x := by
  intro x
  obtain ⟨x0, xu⟩ := x
  show _ = _
  kernel_rfl
theorem meets46 : Meets Try.prog 46 g46 :=
  meets_of (C := c46 FUEL) (ann := an46) (mkC_ok (gs := []) (is := []) (mt := mtL) tysOK elemOK trivial trivial mtOK FUEL) mixed Try.func46 (by kernel_rfl) (by kernel_rfl) (by kernel_rfl) (of_decide_eq_true (by kernel_rfl)) (fun p => p.1.1) (fun _ _ => ⟨rfl, rfl⟩) ev46
def c47 (N : Nat) : Cx := mkC tyL [] [] mtL N
def g47 : Sig := ⟨(.cons (.pure (.pair (.int .i64) (.pair (.int .i64) .nl))) .nl), (.cons (.pure (.int .i64)) .nl), Int, fun x => m_descend_nodes x.1, fun _ y => (y, ()), fun _ y => ((), ())⟩
def an47 : Nat → Ann := mkA []
theorem ev47 : ∀ x : g47.ps.den, evalFn (c47 FUEL) an47 Try.f47 (codeOf Try.f47) g47 x (fun p => p.1.1) = g47.m x := by
  intro x
  obtain ⟨x0, xu⟩ := x
  show _ = _
  kernel_rfl
theorem meets47 : Meets Try.prog 47 g47 :=
  meets_of (C := c47 FUEL) (ann := an47) (mkC_ok (gs := []) (is := []) (mt := mtL) tysOK elemOK trivial trivial mtOK FUEL) mixed Try.func47 (by kernel_rfl) (by kernel_rfl) (by kernel_rfl) (of_decide_eq_true (by kernel_rfl)) (fun p => p.1.1) (fun _ _ => ⟨rfl, rfl⟩) ev47
def c28 (N : Nat) : Cx := mkC tyL [(46, g46), (47, g47)] [] mtL N
def g28 : Sig := ⟨(.cons (.pure (.pair (.int .i64) (.pair (.int .i64) .nl))) .nl), (.cons (.pure (.int .i64)) (.cons (.pure (.int .i64)) .nl)), (Int × Int), fun x => m_descend_Words x.1, fun _ y => (y.1, (y.2, ())), fun _ y => ((), ())⟩
def an28 : Nat → Ann := mkA []
theorem ev28 : ∀ x : g28.ps.den, evalFn (c28 FUEL) an28 Try.f28 (codeOf Try.f28) g28 x (fun p => (p.1.1, p.1.2.1)) = g28.m x := by
  intro x
  obtain ⟨x0, xu⟩ := x
  show _ = _
  kernel_rfl
theorem meets28 : Meets Try.prog 28 g28 :=
  meets_of (C := c28 FUEL) (ann := an28) (mkC_ok (gs := [(46, g46), (47, g47)]) (is := []) (mt := mtL) tysOK elemOK ⟨meets46, meets47, trivial⟩ trivial mtOK FUEL) mixed Try.func28 (by kernel_rfl) (by kernel_rfl) (by kernel_rfl) (of_decide_eq_true (by kernel_rfl)) (fun p => (p.1.1, p.1.2.1)) (fun _ _ => ⟨rfl, rfl⟩) ev28
def c38 (N : Nat) : Cx := mkC tyL [] [] mtL N
def g38 : Sig := ⟨(.cons (.pure (.sl (.int .u64))) .nl), (.cons (.own (.int .u64)) .nl), (List Int), fun x => m_slices_Clone_uint64_uint64 x.1, fun _ y => (y, ()), fun _ y => ((), ())⟩
def an38 : Nat → Ann := mkA []
theorem ev38 : ∀ x : g38.ps.den, evalFn (c38 FUEL) an38 Try.f38 (codeOf Try.f38) g38 x (fun p => p.1.1) = g38.m x := by
  intro x
  obtain ⟨x0, xu⟩ := x
  show _ = _
  kernel_rfl
theorem meets38 : Meets Try.prog 38 g38 :=
  meets_of (C := c38 FUEL) (ann := an38) (mkC_ok (gs := []) (is := []) (mt := mtL) tysOK elemOK trivial trivial mtOK FUEL) mixed Try.func38 (by kernel_rfl) (by kernel_rfl) (by kernel_rfl) (of_decide_eq_true (by kernel_rfl)) (fun p => p.1.1) (fun _ _ => ⟨rfl, rfl⟩) ev38
noncomputable def c14 (N : Nat) : Cx := mkC tyL [(38, g38)] [(37, i37)] mtL N
def g14 : Sig := ⟨(.cons (.ptr (.cons (.own (.int .u64)) .nl)) .nl), (.cons (.ptr (.cons (.own (.int .u64)) .nl)) .nl), (((List Int) × Unit) × ((List Int) × Unit)), fun x => m_mem_Mem_Copy x.1, fun _ y => (y.1, ()), fun _ y => (y.2, ())⟩
def an14 : Nat → Ann := mkA []
theorem ev14 : ∀ x : g14.ps.den, evalFn (c14 FUEL) an14 Try.f14 (codeOf Try.f14) g14 x (fun p => (p.1.1, p.2.1)) = g14.m x := by
  intro x
  obtain ⟨x0, xu⟩ := x
  show _ = _
  kernel_rfl
theorem meets14 : Meets Try.prog 14 g14 :=
  meets_of (C := c14 FUEL) (ann := an14) (mkC_ok (gs := [(38, g38)]) (is := [(37, i37)]) (mt := mtL) tysOK elemOK ⟨meets38, trivial⟩ ⟨inl37, trivial⟩ mtOK FUEL) mixed Try.func14 (by kernel_rfl) (by kernel_rfl) (by kernel_rfl) (of_decide_eq_true (by kernel_rfl)) (fun p => (p.1.1, p.2.1)) (fun _ _ => ⟨rfl, rfl⟩) ev14
noncomputable def c48 (N : Nat) : Cx := mkC tyL [] [(37, i37)] mtL N
noncomputable def i48 : List AV → Nat → Pg AV := inlPg (c48 0) Try.f48 (codeOf Try.f48)
theorem inl48 : Inlines Try.prog 48 i48 := inlines (C := c48 0) (mkC_ok (gs := []) (is := [(37, i37)]) (mt := mtL) tysOK elemOK trivial ⟨inl37, trivial⟩ mtOK 0) mixed Try.func48 (by kernel_rfl) (by kernel_rfl)
def c49 (N : Nat) : Cx := mkC tyL [] [] mtL N
def g49 : Sig := ⟨(.cons (.pure (.int .i64)) (.cons (.pure (.int .i64)) .nl)), (.cons (.pure (.int .i64)) .nl), Int, fun x => m_arena_place x.1 x.2.1, fun _ y => (y, ()), fun _ y => ((), ((), ()))⟩
def an49 : Nat → Ann := mkA []
theorem ev49 : ∀ x : g49.ps.den, evalFn (c49 FUEL) an49 Try.f49 (codeOf Try.f49) g49 x (fun p => p.1.1) = g49.m x := by
  intro x
  obtain ⟨x0, x1, xu⟩ := x
  show _ = _
  kernel_rfl
theorem meets49 : Meets Try.prog 49 g49 :=
  meets_of (C := c49 FUEL) (ann := an49) (mkC_ok (gs := []) (is := []) (mt := mtL) tysOK elemOK trivial trivial mtOK FUEL) mixed Try.func49 (by kernel_rfl) (by kernel_rfl) (by kernel_rfl) (of_decide_eq_true (by kernel_rfl)) (fun p => p.1.1) (fun _ _ => ⟨rfl, rfl⟩) ev49
def c50 (N : Nat) : Cx := mkC tyL [(16, g16)] [] mtL N
noncomputable def i50 : List AV → Nat → Pg AV := inlPg (c50 0) Try.f50 (codeOf Try.f50)
theorem inl50 : Inlines Try.prog 50 i50 := inlines (C := c50 0) (mkC_ok (gs := [(16, g16)]) (is := []) (mt := mtL) tysOK elemOK ⟨meets16, trivial⟩ trivial mtOK 0) mixed Try.func50 (by kernel_rfl) (by kernel_rfl)
noncomputable def c30 (N : Nat) : Cx := mkC tyL [(14, g14), (49, g49)] [(48, i48), (50, i50)] mtL N
def g30 : Sig := ⟨(.cons (.ptr (.cons (.own (.int .u64)) .nl)) (.cons (.pure (.int .i64)) .nl)), (.cons (.nptr (.cons (.cons (.ptr (.cons (.own (.int .u64)) .nl)) .nl) .nl)) (.cons (.pure (.int .i64)) .nl)), ((Option ((((List Int) × Unit) × Unit) × Unit)) × Int × ((List Int) × Unit)), fun x => m_arena_Format x.1 x.2.1, fun _ y => (y.1, (y.2.1, ())), fun _ y => (y.2.2, ((), ()))⟩
def an30 : Nat → Ann := mkA [(7, ⟨[1, 6, 33, 34], [], [6, 200928, 200929], false, [(200929, [.fld 0], (.own (.int .u64)), 2003214864)]⟩), (15, ⟨[1, 6, 8], [], [6, 200928, 200929], false, [(200929, [.fld 0], (.own (.int .u64)), 2003214864)]⟩)]
noncomputable def k30 (N : Nat) : Ex → St → Option ((Option ((((List Int) × Unit) × Unit) × Unit)) × Int × ((List Int) × Unit)) := finK (c30 N) Try.f30 g30 (.cons (.ref 100000 []) (.cons .top .nl)) (fun p => (p.1.1, p.1.2.1, p.2.1))
def a30 : Nat → Ann := annP [100000] an30
def h30_1 (u1_0 : Int) (u1_1 : Int) (u1_2 : (List Int)) (u1_3 : (List Int)) : St := ⟨64, [(1, (.int .i64 u1_0)), (6, (.ref 6 [])), (8, (.int .i64 u1_1))], [(100000, (.cons (.full 200928) .nl)), (6, (.cons (.ref 200929 []) .nl)), (200928, (.bk (.int .u64) u1_2)), (200929, (.cons (.full 2003214864) .nl)), (2003214864, (.bk (.int .u64) u1_3))]⟩
def h30_0 (u0_0 : Int) (u0_1 : Int) (u0_2 : Int) (u0_3 : (List Int)) (u0_4 : (List Int)) : St := ⟨64, [(1, (.int .i64 u0_0)), (6, (.ref 6 [])), (33, (.int .i64 u0_1)), (34, (.int .i64 u0_2))], [(100000, (.cons (.full 200928) .nl)), (6, (.cons (.ref 200929 []) .nl)), (200928, (.bk (.int .u64) u0_3)), (200929, (.cons (.full 2003214864) .nl)), (2003214864, (.bk (.int .u64) u0_4))]⟩
theorem t30_1 : ∀ (N : Nat) (n : Nat) (u1_0 : Int) (u1_1 : Int) (u1_2 : (List Int)) (u1_3 : (List Int)), loopAt (c30 N) a30 [1, 1, 1, 1, 1, 1, 1, 0, 1, 0] [] (codeOf Try.f30) (k30 N) n (h30_1 u1_0 u1_1 u1_2 u1_3) = m_arena_Format_l1 N n u1_0 u1_1 u1_2 u1_3 := by
  intro N n
  induction n with
  | zero => intro u1_0 u1_1 u1_2 u1_3; kernel_rfl
  | succ n ih =>
    intro u1_0 u1_1 u1_2 u1_3
    have e : loopAt (c30 N) a30 [1, 1, 1, 1, 1, 1, 1, 0, 1, 0] [] (codeOf Try.f30) (k30 N) (n + 1) (h30_1 u1_0 u1_1 u1_2 u1_3) = m_arena_Format_l1_b (fun w0 w1 w2 w3 => loopAt (c30 N) a30 [1, 1, 1, 1, 1, 1, 1, 0, 1, 0] [] (codeOf Try.f30) (k30 N) n (h30_1 w0 w1 w2 w3)) u1_0 u1_1 u1_2 u1_3 := by kernel_rfl
    refine e.trans ?_
    have es : (fun w0 w1 w2 w3 => loopAt (c30 N) a30 [1, 1, 1, 1, 1, 1, 1, 0, 1, 0] [] (codeOf Try.f30) (k30 N) n (h30_1 w0 w1 w2 w3)) = m_arena_Format_l1 N n := by
      funext w0 w1 w2 w3; exact ih w0 w1 w2 w3
    rw [es]
    rw [m_arena_Format_l1]
theorem t30_0 : ∀ (N : Nat) (n : Nat) (u0_0 : Int) (u0_1 : Int) (u0_2 : Int) (u0_3 : (List Int)) (u0_4 : (List Int)), loopAt (c30 N) a30 [1, 1, 1, 0, 1, 0] [] (codeOf Try.f30) (k30 N) n (h30_0 u0_0 u0_1 u0_2 u0_3 u0_4) = m_arena_Format_l0 N n u0_0 u0_1 u0_2 u0_3 u0_4 := by
  intro N n
  induction n with
  | zero => intro u0_0 u0_1 u0_2 u0_3 u0_4; kernel_rfl
  | succ n ih =>
    intro u0_0 u0_1 u0_2 u0_3 u0_4
    have e : loopAt (c30 N) a30 [1, 1, 1, 0, 1, 0] [] (codeOf Try.f30) (k30 N) (n + 1) (h30_0 u0_0 u0_1 u0_2 u0_3 u0_4) = m_arena_Format_l0_b (fun w0 w1 w2 w3 w4 => loopAt (c30 N) a30 [1, 1, 1, 0, 1, 0] [] (codeOf Try.f30) (k30 N) n (h30_0 w0 w1 w2 w3 w4)) (fun w0 w1 w2 w3 => loopAt (c30 N) a30 [1, 1, 1, 1, 1, 1, 1, 0, 1, 0] [] (codeOf Try.f30) (k30 N) N (h30_1 w0 w1 w2 w3)) u0_0 u0_1 u0_2 u0_3 u0_4 := by kernel_rfl
    refine e.trans ?_
    have e1 : (fun w0 w1 w2 w3 => loopAt (c30 N) a30 [1, 1, 1, 1, 1, 1, 1, 0, 1, 0] [] (codeOf Try.f30) (k30 N) N (h30_1 w0 w1 w2 w3)) = m_arena_Format_l1 N N := by
      funext w0 w1 w2 w3; exact t30_1 N N w0 w1 w2 w3
    rw [e1]
    have es : (fun w0 w1 w2 w3 w4 => loopAt (c30 N) a30 [1, 1, 1, 0, 1, 0] [] (codeOf Try.f30) (k30 N) n (h30_0 w0 w1 w2 w3 w4)) = m_arena_Format_l0 N n := by
      funext w0 w1 w2 w3 w4; exact ih w0 w1 w2 w3 w4
    rw [es]
    rw [m_arena_Format_l0]
theorem ew30 : ∀ (N : Nat) (x : g30.ps.den), evalFn (c30 N) an30 Try.f30 (codeOf Try.f30) g30 x (fun p => (p.1.1, p.1.2.1, p.2.1)) = m_arena_Format_a (m_arena_Format_l0 N N) x.1 x.2.1 := by
  intro N
  intro x
  obtain ⟨x0, x1, xu⟩ := x
  have e : evalFn (c30 N) an30 Try.f30 (codeOf Try.f30) g30 (x0, x1, xu) (fun p => (p.1.1, p.1.2.1, p.2.1)) = m_arena_Format_a (fun w0 w1 w2 w3 w4 => loopAt (c30 N) a30 [1, 1, 1, 0, 1, 0] [] (codeOf Try.f30) (k30 N) N (h30_0 w0 w1 w2 w3 w4)) x0 x1 := by kernel_rfl
  refine e.trans ?_
  have e0 : (fun w0 w1 w2 w3 w4 => loopAt (c30 N) a30 [1, 1, 1, 0, 1, 0] [] (codeOf Try.f30) (k30 N) N (h30_0 w0 w1 w2 w3 w4)) = m_arena_Format_l0 N N := by
    funext w0 w1 w2 w3 w4; exact t30_0 N N w0 w1 w2 w3 w4
  rw [e0]
theorem ev30 : ∀ x : g30.ps.den, evalFn (c30 FUEL) an30 Try.f30 (codeOf Try.f30) g30 x (fun p => (p.1.1, p.1.2.1, p.2.1)) = g30.m x := fun x => ew30 FUEL x
theorem meets30 : Meets Try.prog 30 g30 :=
  meets_of (C := c30 FUEL) (ann := an30) (mkC_ok (gs := [(14, g14), (49, g49)]) (is := [(48, i48), (50, i50)]) (mt := mtL) tysOK elemOK ⟨meets14, meets49, trivial⟩ ⟨inl48, inl50, trivial⟩ mtOK FUEL) mixed Try.func30 (by kernel_rfl) (by kernel_rfl) (by kernel_rfl) (of_decide_eq_true (by kernel_rfl)) (fun p => (p.1.1, p.1.2.1, p.2.1)) (fun _ _ => ⟨rfl, rfl⟩) ev30
def c66 (N : Nat) : Cx := mkC tyL [(75, g75)] [] mtL N
def g66 : Sig := ⟨(.cons (.pure .str) (.cons (.pure .str) .nl)), (.cons (.pure (.int .i64)) .nl), Int, fun x => m_internal_bytealg_CompareString x.1 x.2.1, fun _ y => (y, ()), fun _ y => ((), ((), ()))⟩
def an66 : Nat → Ann := mkA []
theorem ev66 : ∀ x : g66.ps.den, evalFn (c66 FUEL) an66 Try.f66 (codeOf Try.f66) g66 x (fun p => p.1.1) = g66.m x := by
  intro x
  obtain ⟨x0, x1, xu⟩ := x
  show _ = _
  kernel_rfl
theorem meets66 : Meets Try.prog 66 g66 :=
  meets_of (C := c66 FUEL) (ann := an66) (mkC_ok (gs := [(75, g75)]) (is := []) (mt := mtL) tysOK elemOK ⟨meets75, trivial⟩ trivial mtOK FUEL) mixed Try.func66 (by kernel_rfl) (by kernel_rfl) (by kernel_rfl) (of_decide_eq_true (by kernel_rfl)) (fun p => p.1.1) (fun _ _ => ⟨rfl, rfl⟩) ev66
def c59 (N : Nat) : Cx := mkC tyL [(66, g66)] [] mtL N
def g59 : Sig := ⟨(.cons (.pure .str) (.cons (.pure .str) .nl)), (.cons (.pure (.int .i64)) .nl), Int, fun x => m_strings_Compare x.1 x.2.1, fun _ y => (y, ()), fun _ y => ((), ((), ()))⟩
def an59 : Nat → Ann := mkA []
theorem ev59 : ∀ x : g59.ps.den, evalFn (c59 FUEL) an59 Try.f59 (codeOf Try.f59) g59 x (fun p => p.1.1) = g59.m x := by
  intro x
  obtain ⟨x0, x1, xu⟩ := x
  show _ = _
  kernel_rfl
theorem meets59 : Meets Try.prog 59 g59 :=
  meets_of (C := c59 FUEL) (ann := an59) (mkC_ok (gs := [(66, g66)]) (is := []) (mt := mtL) tysOK elemOK ⟨meets66, trivial⟩ trivial mtOK FUEL) mixed Try.func59 (by kernel_rfl) (by kernel_rfl) (by kernel_rfl) (of_decide_eq_true (by kernel_rfl)) (fun p => p.1.1) (fun _ _ => ⟨rfl, rfl⟩) ev59
def c51 (N : Nat) : Cx := mkC tyL [(59, g59)] [] mtL N
def g51 : Sig := ⟨(.cons (.pure .str) (.cons (.pure .str) .nl)), (.cons (.pure (.int .i64)) .nl), Int, fun x => m_keys_Compare x.1 x.2.1, fun _ y => (y, ()), fun _ y => ((), ((), ()))⟩
def an51 : Nat → Ann := mkA []
theorem ev51 : ∀ x : g51.ps.den, evalFn (c51 FUEL) an51 Try.f51 (codeOf Try.f51) g51 x (fun p => p.1.1) = g51.m x := by
  intro x
  obtain ⟨x0, x1, xu⟩ := x
  show _ = _
  kernel_rfl
theorem meets51 : Meets Try.prog 51 g51 :=
  meets_of (C := c51 FUEL) (ann := an51) (mkC_ok (gs := [(59, g59)]) (is := []) (mt := mtL) tysOK elemOK ⟨meets59, trivial⟩ trivial mtOK FUEL) mixed Try.func51 (by kernel_rfl) (by kernel_rfl) (by kernel_rfl) (of_decide_eq_true (by kernel_rfl)) (fun p => p.1.1) (fun _ _ => ⟨rfl, rfl⟩) ev51
def c67 (N : Nat) : Cx := mkC tyL [] [] mtL N
def g67 : Sig := ⟨(.cons (.pure .str) .nl), (.cons (.pure .bool) .nl), Bool, fun x => m_keys_ValidValue x.1, fun _ y => (y, ()), fun _ y => ((), ())⟩
def an67 : Nat → Ann := mkA []
theorem ev67 : ∀ x : g67.ps.den, evalFn (c67 FUEL) an67 Try.f67 (codeOf Try.f67) g67 x (fun p => p.1.1) = g67.m x := by
  intro x
  obtain ⟨x0, xu⟩ := x
  show _ = _
  kernel_rfl
theorem meets67 : Meets Try.prog 67 g67 :=
  meets_of (C := c67 FUEL) (ann := an67) (mkC_ok (gs := []) (is := []) (mt := mtL) tysOK elemOK trivial trivial mtOK FUEL) mixed Try.func67 (by kernel_rfl) (by kernel_rfl) (by kernel_rfl) (of_decide_eq_true (by kernel_rfl)) (fun p => p.1.1) (fun _ _ => ⟨rfl, rfl⟩) ev67
def c68 (N : Nat) : Cx := mkC tyL [] [] mtL N
def g68 : Sig := ⟨(.cons (.pure (.int .i64)) .nl), (.cons (.pure (.int .i64)) .nl), Int, fun x => m_keys_Words x.1, fun _ y => (y, ()), fun _ y => ((), ())⟩
def an68 : Nat → Ann := mkA []
theorem ev68 : ∀ x : g68.ps.den, evalFn (c68 FUEL) an68 Try.f68 (codeOf Try.f68) g68 x (fun p => p.1.1) = g68.m x := by
  intro x
  obtain ⟨x0, xu⟩ := x
  show _ = _
  kernel_rfl
theorem meets68 : Meets Try.prog 68 g68 :=
  meets_of (C := c68 FUEL) (ann := an68) (mkC_ok (gs := []) (is := []) (mt := mtL) tysOK elemOK trivial trivial mtOK FUEL) mixed Try.func68 (by kernel_rfl) (by kernel_rfl) (by kernel_rfl) (of_decide_eq_true (by kernel_rfl)) (fun p => p.1.1) (fun _ _ => ⟨rfl, rfl⟩) ev68
def c60 (N : Nat) : Cx := mkC tyL [(67, g67), (68, g68)] [] mtL N
def g60 : Sig := ⟨(.cons (.pure .str) .nl), (.cons (.own (.int .u64)) (.cons (.pure (.int .i64)) .nl)), ((List Int) × Int), fun x => m_keys_Pack x.1, fun _ y => (y.1, (y.2, ())), fun _ y => ((), ())⟩
def an60 : Nat → Ann := mkA [(5, ⟨[0, 14, 15], [(4, (.own (.int .u64)), 300004)], [], false, []⟩), (9, ⟨[0, 4, 5, 6, 14, 15, 18], [], [300004], false, []⟩)]
noncomputable def k60 (N : Nat) : Ex → St → Option ((List Int) × Int) := finK (c60 N) Try.f60 g60 (.cons .top .nl) (fun p => (p.1.1, p.1.2.1))
def a60 : Nat → Ann := annP [] an60
def h60_1 (u1_0 : ByteArray) (u1_1 : Int) (u1_2 : Int) (u1_3 : Int) (u1_4 : Int) (u1_5 : Int) (u1_6 : (List Int)) : St := ⟨44, [(0, (.str u1_0)), (4, (.full 300004)), (5, (.int .i64 u1_1)), (6, (.int .u64 u1_2)), (14, (.int .i64 u1_3)), (15, (.int .i64 u1_4)), (18, (.int .i64 u1_5))], [(300004, (.bk (.int .u64) u1_6))]⟩
def h60_0 (u0_0 : ByteArray) (u0_1 : Int) (u0_2 : Int) (u0_3 : (List Int)) : St := ⟨44, [(4, .full 300004), (0, (.str u0_0)), (14, (.int .i64 u0_1)), (15, (.int .i64 u0_2))], [(300004, (.bk (.int .u64) u0_3))]⟩
theorem t60_1 : ∀ (N : Nat) (m0 : Nat) (n : Nat) (u1_0 : ByteArray) (u1_1 : Int) (u1_2 : Int) (u1_3 : Int) (u1_4 : Int) (u1_5 : Int) (u1_6 : (List Int)), loopAt (c60 N) a60 [1, 1, 1, 0, 1, 0, 0, 1, 1, 0, 0, 1, 1, 0, 1, 0] [m0] (codeOf Try.f60) (k60 N) n (h60_1 u1_0 u1_1 u1_2 u1_3 u1_4 u1_5 u1_6) = m_keys_Pack_l1 N (fun w0 w1 w2 w3 => loopAt (c60 N) a60 [1, 1, 1, 0, 1, 0] [] (codeOf Try.f60) (k60 N) m0 (h60_0 w0 w1 w2 w3)) n u1_0 u1_1 u1_2 u1_3 u1_4 u1_5 u1_6 := by
  intro N m0 n
  induction n with
  | zero => intro u1_0 u1_1 u1_2 u1_3 u1_4 u1_5 u1_6; kernel_rfl
  | succ n ih =>
    intro u1_0 u1_1 u1_2 u1_3 u1_4 u1_5 u1_6
    have e : loopAt (c60 N) a60 [1, 1, 1, 0, 1, 0, 0, 1, 1, 0, 0, 1, 1, 0, 1, 0] [m0] (codeOf Try.f60) (k60 N) (n + 1) (h60_1 u1_0 u1_1 u1_2 u1_3 u1_4 u1_5 u1_6) = m_keys_Pack_l1_b (fun w0 w1 w2 w3 => loopAt (c60 N) a60 [1, 1, 1, 0, 1, 0] [] (codeOf Try.f60) (k60 N) m0 (h60_0 w0 w1 w2 w3)) (fun w0 w1 w2 w3 w4 w5 w6 => loopAt (c60 N) a60 [1, 1, 1, 0, 1, 0, 0, 1, 1, 0, 0, 1, 1, 0, 1, 0] [m0] (codeOf Try.f60) (k60 N) n (h60_1 w0 w1 w2 w3 w4 w5 w6)) u1_0 u1_1 u1_2 u1_3 u1_4 u1_5 u1_6 := by kernel_rfl
    refine e.trans ?_
    have es : (fun w0 w1 w2 w3 w4 w5 w6 => loopAt (c60 N) a60 [1, 1, 1, 0, 1, 0, 0, 1, 1, 0, 0, 1, 1, 0, 1, 0] [m0] (codeOf Try.f60) (k60 N) n (h60_1 w0 w1 w2 w3 w4 w5 w6)) = m_keys_Pack_l1 N (fun w0 w1 w2 w3 => loopAt (c60 N) a60 [1, 1, 1, 0, 1, 0] [] (codeOf Try.f60) (k60 N) m0 (h60_0 w0 w1 w2 w3)) n := by
      funext w0 w1 w2 w3 w4 w5 w6; exact ih w0 w1 w2 w3 w4 w5 w6
    rw [es]
    rw [m_keys_Pack_l1]
theorem t60_0 : ∀ (N : Nat) (n : Nat) (u0_0 : ByteArray) (u0_1 : Int) (u0_2 : Int) (u0_3 : (List Int)), loopAt (c60 N) a60 [1, 1, 1, 0, 1, 0] [] (codeOf Try.f60) (k60 N) n (h60_0 u0_0 u0_1 u0_2 u0_3) = m_keys_Pack_l0 N n u0_0 u0_1 u0_2 u0_3 := by
  intro N n
  induction n with
  | zero => intro u0_0 u0_1 u0_2 u0_3; kernel_rfl
  | succ n ih =>
    intro u0_0 u0_1 u0_2 u0_3
    have e : loopAt (c60 N) a60 [1, 1, 1, 0, 1, 0] [] (codeOf Try.f60) (k60 N) (n + 1) (h60_0 u0_0 u0_1 u0_2 u0_3) = m_keys_Pack_l0_b (fun w0 w1 w2 w3 => loopAt (c60 N) a60 [1, 1, 1, 0, 1, 0] [] (codeOf Try.f60) (k60 N) n (h60_0 w0 w1 w2 w3)) (fun w0 w1 w2 w3 w4 w5 w6 => loopAt (c60 N) a60 [1, 1, 1, 0, 1, 0, 0, 1, 1, 0, 0, 1, 1, 0, 1, 0] [n] (codeOf Try.f60) (k60 N) N (h60_1 w0 w1 w2 w3 w4 w5 w6)) u0_0 u0_1 u0_2 u0_3 := by kernel_rfl
    refine e.trans ?_
    have e1 : (fun w0 w1 w2 w3 w4 w5 w6 => loopAt (c60 N) a60 [1, 1, 1, 0, 1, 0, 0, 1, 1, 0, 0, 1, 1, 0, 1, 0] [n] (codeOf Try.f60) (k60 N) N (h60_1 w0 w1 w2 w3 w4 w5 w6)) = m_keys_Pack_l1 N (fun w0 w1 w2 w3 => loopAt (c60 N) a60 [1, 1, 1, 0, 1, 0] [] (codeOf Try.f60) (k60 N) n (h60_0 w0 w1 w2 w3)) N := by
      funext w0 w1 w2 w3 w4 w5 w6; exact t60_1 N n N w0 w1 w2 w3 w4 w5 w6
    rw [e1]
    have es : (fun w0 w1 w2 w3 => loopAt (c60 N) a60 [1, 1, 1, 0, 1, 0] [] (codeOf Try.f60) (k60 N) n (h60_0 w0 w1 w2 w3)) = m_keys_Pack_l0 N n := by
      funext w0 w1 w2 w3; exact ih w0 w1 w2 w3
    rw [es]
    rw [m_keys_Pack_l0]
theorem ew60 : ∀ (N : Nat) (x : g60.ps.den), evalFn (c60 N) an60 Try.f60 (codeOf Try.f60) g60 x (fun p => (p.1.1, p.1.2.1)) = m_keys_Pack_a (m_keys_Pack_l0 N N) x.1 := by
  intro N
  intro x
  obtain ⟨x0, xu⟩ := x
  have e : evalFn (c60 N) an60 Try.f60 (codeOf Try.f60) g60 (x0, xu) (fun p => (p.1.1, p.1.2.1)) = m_keys_Pack_a (fun w0 w1 w2 w3 => loopAt (c60 N) a60 [1, 1, 1, 0, 1, 0] [] (codeOf Try.f60) (k60 N) N (h60_0 w0 w1 w2 w3)) x0 := by kernel_rfl
  refine e.trans ?_
  have e0 : (fun w0 w1 w2 w3 => loopAt (c60 N) a60 [1, 1, 1, 0, 1, 0] [] (codeOf Try.f60) (k60 N) N (h60_0 w0 w1 w2 w3)) = m_keys_Pack_l0 N N := by
    funext w0 w1 w2 w3; exact t60_0 N N w0 w1 w2 w3
  rw [e0]
theorem ev60 : ∀ x : g60.ps.den, evalFn (c60 FUEL) an60 Try.f60 (codeOf Try.f60) g60 x (fun p => (p.1.1, p.1.2.1)) = g60.m x := fun x => ew60 FUEL x
theorem meets60 : Meets Try.prog 60 g60 :=
  meets_of (C := c60 FUEL) (ann := an60) (mkC_ok (gs := [(67, g67), (68, g68)]) (is := []) (mt := mtL) tysOK elemOK ⟨meets67, meets68, trivial⟩ trivial mtOK FUEL) mixed Try.func60 (by kernel_rfl) (by kernel_rfl) (by kernel_rfl) (of_decide_eq_true (by kernel_rfl)) (fun p => (p.1.1, p.1.2.1)) (fun _ _ => ⟨rfl, rfl⟩) ev60
def c52 (N : Nat) : Cx := mkC tyL [(60, g60)] [] mtL N
def g52 : Sig := ⟨(.cons (.ptr (.pure (.arr 128 (.int .u64)))) (.cons (.pure (.int .i64)) (.cons (.pure .str) .nl))), (.cons (.pure (.int .i64)) .nl), (Int × (List Int)), fun x => m_slot_setFence x.1 x.2.1 x.2.2.1, fun _ y => (y.1, ()), fun _ y => (y.2, ((), ((), ())))⟩
def an52 : Nat → Ann := mkA []
theorem ev52 : ∀ x : g52.ps.den, evalFn (c52 FUEL) an52 Try.f52 (codeOf Try.f52) g52 x (fun p => (p.1.1, p.2.1)) = g52.m x := by
  intro x
  obtain ⟨x0, x1, x2, xu⟩ := x
  show _ = _
  kernel_rfl
theorem meets52 : Meets Try.prog 52 g52 :=
  meets_of (C := c52 FUEL) (ann := an52) (mkC_ok (gs := [(60, g60)]) (is := []) (mt := mtL) tysOK elemOK ⟨meets60, trivial⟩ trivial mtOK FUEL) mixed Try.func52 (by kernel_rfl) (by kernel_rfl) (by kernel_rfl) (of_decide_eq_true (by kernel_rfl)) (fun p => (p.1.1, p.2.1)) (fun _ _ => ⟨rfl, rfl⟩) ev52
def c31 (N : Nat) : Cx := mkC tyL [(51, g51), (52, g52)] [] mtL N
def g31 : Sig := ⟨(.cons (.pure (.int .i64)) (.cons (.pure .str) (.cons (.pure .str) .nl))), (.cons (.pure (.arr 128 (.int .u64))) (.cons (.pure (.int .i64)) .nl)), ((List Int) × Int), fun x => m_slot_Make x.1 x.2.1 x.2.2.1, fun _ y => (y.1, (y.2, ())), fun _ y => ((), ((), ((), ())))⟩
def an31 : Nat → Ann := mkA []
theorem ev31 : ∀ x : g31.ps.den, evalFn (c31 FUEL) an31 Try.f31 (codeOf Try.f31) g31 x (fun p => (p.1.1, p.1.2.1)) = g31.m x := by
  intro x
  obtain ⟨x0, x1, x2, xu⟩ := x
  show _ = _
  kernel_rfl
theorem meets31 : Meets Try.prog 31 g31 :=
  meets_of (C := c31 FUEL) (ann := an31) (mkC_ok (gs := [(51, g51), (52, g52)]) (is := []) (mt := mtL) tysOK elemOK ⟨meets51, meets52, trivial⟩ trivial mtOK FUEL) mixed Try.func31 (by kernel_rfl) (by kernel_rfl) (by kernel_rfl) (of_decide_eq_true (by kernel_rfl)) (fun p => (p.1.1, p.1.2.1)) (fun _ _ => ⟨rfl, rfl⟩) ev31
def c53 (N : Nat) : Cx := mkC tyL [] [] mtL N
noncomputable def i53 : List AV → Nat → Pg AV := inlPg (c53 0) Try.f53 (codeOf Try.f53)
theorem inl53 : Inlines Try.prog 53 i53 := inlines (C := c53 0) (mkC_ok (gs := []) (is := []) (mt := mtL) tysOK elemOK trivial trivial mtOK 0) mixed Try.func53 (by kernel_rfl) (by kernel_rfl)
def c77 (N : Nat) : Cx := mkC tyL [(68, g68)] [] mtL N
def g77 : Sig := ⟨(.cons (.pure (.sl (.int .u64))) (.cons (.pure (.int .i64)) .nl)), (.cons (.pure .str) (.cons (.pure (.int .i64)) .nl)), (ByteArray × Int), fun x => m_keys_Unpack x.1 x.2.1, fun _ y => (y.1, (y.2, ())), fun _ y => ((), ((), ()))⟩
def an77 : Nat → Ann := mkA [(9, ⟨[1, 24, 25, 26], [(6, (.own (.int .u8)), 300006)], [], false, []⟩), (12, ⟨[1, 8, 9, 24, 25, 26], [(6, (.own (.int .u8)), 300006)], [], false, []⟩), (17, ⟨[1, 6, 45, 46, 47], [], [300006], false, []⟩)]
noncomputable def k77 (N : Nat) : Ex → St → Option (ByteArray × Int) := finK (c77 N) Try.f77 g77 (.cons .top (.cons .top .nl)) (fun p => (p.1.1, p.1.2.1))
def a77 : Nat → Ann := annP [] an77
def h77_1 (u1_0 : Int) (u1_1 : Int) (u1_2 : Int) (u1_3 : (List Int)) (u1_4 : Int) (u1_5 : Int) (u1_6 : (List Int)) : St := ⟨58, [(6, .full 300006), (1, (.int .i64 u1_0)), (8, (.int .u64 u1_1)), (9, (.int .i64 u1_2)), (24, (.lst (.int .u64) u1_3)), (25, (.int .i64 u1_4)), (26, (.int .i64 u1_5))], [(300006, (.bk (.int .u8) u1_6))]⟩
def h77_2 (u2_0 : Int) (u2_1 : Int) (u2_2 : Int) (u2_3 : Int) (u2_4 : Int) (u2_5 : (List Int)) : St := ⟨58, [(1, (.int .i64 u2_0)), (6, (.full 300006)), (45, (.view 300006 [] u2_1 u2_2)), (46, (.int .i64 u2_3)), (47, (.int .i64 u2_4))], [(300006, (.bk (.int .u8) u2_5))]⟩
def h77_0 (u0_0 : Int) (u0_1 : (List Int)) (u0_2 : Int) (u0_3 : Int) (u0_4 : (List Int)) : St := ⟨58, [(6, .full 300006), (1, (.int .i64 u0_0)), (24, (.lst (.int .u64) u0_1)), (25, (.int .i64 u0_2)), (26, (.int .i64 u0_3))], [(300006, (.bk (.int .u8) u0_4))]⟩
theorem t77_1 : ∀ (N : Nat) (m0 : Nat) (n : Nat) (u1_0 : Int) (u1_1 : Int) (u1_2 : Int) (u1_3 : (List Int)) (u1_4 : Int) (u1_5 : Int) (u1_6 : (List Int)), loopAt (c77 N) a77 [1, 1, 1, 0, 1, 0, 0, 1, 1, 0, 0, 1, 1, 0] [m0] (codeOf Try.f77) (k77 N) n (h77_1 u1_0 u1_1 u1_2 u1_3 u1_4 u1_5 u1_6) = m_keys_Unpack_l1 N (fun w0 w1 w2 w3 w4 => loopAt (c77 N) a77 [1, 1, 1, 0, 1, 0] [] (codeOf Try.f77) (k77 N) m0 (h77_0 w0 w1 w2 w3 w4)) n u1_0 u1_1 u1_2 u1_3 u1_4 u1_5 u1_6 := by
  intro N m0 n
  induction n with
  | zero => intro u1_0 u1_1 u1_2 u1_3 u1_4 u1_5 u1_6; kernel_rfl
  | succ n ih =>
    intro u1_0 u1_1 u1_2 u1_3 u1_4 u1_5 u1_6
    have e : loopAt (c77 N) a77 [1, 1, 1, 0, 1, 0, 0, 1, 1, 0, 0, 1, 1, 0] [m0] (codeOf Try.f77) (k77 N) (n + 1) (h77_1 u1_0 u1_1 u1_2 u1_3 u1_4 u1_5 u1_6) = m_keys_Unpack_l1_b (fun w0 w1 w2 w3 w4 => loopAt (c77 N) a77 [1, 1, 1, 0, 1, 0] [] (codeOf Try.f77) (k77 N) m0 (h77_0 w0 w1 w2 w3 w4)) (fun w0 w1 w2 w3 w4 w5 w6 => loopAt (c77 N) a77 [1, 1, 1, 0, 1, 0, 0, 1, 1, 0, 0, 1, 1, 0] [m0] (codeOf Try.f77) (k77 N) n (h77_1 w0 w1 w2 w3 w4 w5 w6)) u1_0 u1_1 u1_2 u1_3 u1_4 u1_5 u1_6 := by kernel_rfl
    refine e.trans ?_
    have es : (fun w0 w1 w2 w3 w4 w5 w6 => loopAt (c77 N) a77 [1, 1, 1, 0, 1, 0, 0, 1, 1, 0, 0, 1, 1, 0] [m0] (codeOf Try.f77) (k77 N) n (h77_1 w0 w1 w2 w3 w4 w5 w6)) = m_keys_Unpack_l1 N (fun w0 w1 w2 w3 w4 => loopAt (c77 N) a77 [1, 1, 1, 0, 1, 0] [] (codeOf Try.f77) (k77 N) m0 (h77_0 w0 w1 w2 w3 w4)) n := by
      funext w0 w1 w2 w3 w4 w5 w6; exact ih w0 w1 w2 w3 w4 w5 w6
    rw [es]
    rw [m_keys_Unpack_l1]
theorem t77_2 : ∀ (N : Nat) (n : Nat) (u2_0 : Int) (u2_1 : Int) (u2_2 : Int) (u2_3 : Int) (u2_4 : Int) (u2_5 : (List Int)), loopAt (c77 N) a77 [1, 1, 1, 1, 0, 1, 0] [] (codeOf Try.f77) (k77 N) n (h77_2 u2_0 u2_1 u2_2 u2_3 u2_4 u2_5) = m_keys_Unpack_l2 N n u2_0 u2_1 u2_2 u2_3 u2_4 u2_5 := by
  intro N n
  induction n with
  | zero => intro u2_0 u2_1 u2_2 u2_3 u2_4 u2_5; kernel_rfl
  | succ n ih =>
    intro u2_0 u2_1 u2_2 u2_3 u2_4 u2_5
    have e : loopAt (c77 N) a77 [1, 1, 1, 1, 0, 1, 0] [] (codeOf Try.f77) (k77 N) (n + 1) (h77_2 u2_0 u2_1 u2_2 u2_3 u2_4 u2_5) = m_keys_Unpack_l2_b (fun w0 w1 w2 w3 w4 w5 => loopAt (c77 N) a77 [1, 1, 1, 1, 0, 1, 0] [] (codeOf Try.f77) (k77 N) n (h77_2 w0 w1 w2 w3 w4 w5)) u2_0 u2_1 u2_2 u2_3 u2_4 u2_5 := by kernel_rfl
    refine e.trans ?_
    have es : (fun w0 w1 w2 w3 w4 w5 => loopAt (c77 N) a77 [1, 1, 1, 1, 0, 1, 0] [] (codeOf Try.f77) (k77 N) n (h77_2 w0 w1 w2 w3 w4 w5)) = m_keys_Unpack_l2 N n := by
      funext w0 w1 w2 w3 w4 w5; exact ih w0 w1 w2 w3 w4 w5
    rw [es]
    rw [m_keys_Unpack_l2]
theorem t77_0 : ∀ (N : Nat) (n : Nat) (u0_0 : Int) (u0_1 : (List Int)) (u0_2 : Int) (u0_3 : Int) (u0_4 : (List Int)), loopAt (c77 N) a77 [1, 1, 1, 0, 1, 0] [] (codeOf Try.f77) (k77 N) n (h77_0 u0_0 u0_1 u0_2 u0_3 u0_4) = m_keys_Unpack_l0 N n u0_0 u0_1 u0_2 u0_3 u0_4 := by
  intro N n
  induction n with
  | zero => intro u0_0 u0_1 u0_2 u0_3 u0_4; kernel_rfl
  | succ n ih =>
    intro u0_0 u0_1 u0_2 u0_3 u0_4
    have e : loopAt (c77 N) a77 [1, 1, 1, 0, 1, 0] [] (codeOf Try.f77) (k77 N) (n + 1) (h77_0 u0_0 u0_1 u0_2 u0_3 u0_4) = m_keys_Unpack_l0_b (fun w0 w1 w2 w3 w4 => loopAt (c77 N) a77 [1, 1, 1, 0, 1, 0] [] (codeOf Try.f77) (k77 N) n (h77_0 w0 w1 w2 w3 w4)) (fun w0 w1 w2 w3 w4 w5 w6 => loopAt (c77 N) a77 [1, 1, 1, 0, 1, 0, 0, 1, 1, 0, 0, 1, 1, 0] [n] (codeOf Try.f77) (k77 N) N (h77_1 w0 w1 w2 w3 w4 w5 w6)) (fun w0 w1 w2 w3 w4 w5 => loopAt (c77 N) a77 [1, 1, 1, 1, 0, 1, 0] [] (codeOf Try.f77) (k77 N) N (h77_2 w0 w1 w2 w3 w4 w5)) u0_0 u0_1 u0_2 u0_3 u0_4 := by kernel_rfl
    refine e.trans ?_
    have e1 : (fun w0 w1 w2 w3 w4 w5 w6 => loopAt (c77 N) a77 [1, 1, 1, 0, 1, 0, 0, 1, 1, 0, 0, 1, 1, 0] [n] (codeOf Try.f77) (k77 N) N (h77_1 w0 w1 w2 w3 w4 w5 w6)) = m_keys_Unpack_l1 N (fun w0 w1 w2 w3 w4 => loopAt (c77 N) a77 [1, 1, 1, 0, 1, 0] [] (codeOf Try.f77) (k77 N) n (h77_0 w0 w1 w2 w3 w4)) N := by
      funext w0 w1 w2 w3 w4 w5 w6; exact t77_1 N n N w0 w1 w2 w3 w4 w5 w6
    rw [e1]
    have e2 : (fun w0 w1 w2 w3 w4 w5 => loopAt (c77 N) a77 [1, 1, 1, 1, 0, 1, 0] [] (codeOf Try.f77) (k77 N) N (h77_2 w0 w1 w2 w3 w4 w5)) = m_keys_Unpack_l2 N N := by
      funext w0 w1 w2 w3 w4 w5; exact t77_2 N N w0 w1 w2 w3 w4 w5
    rw [e2]
    have es : (fun w0 w1 w2 w3 w4 => loopAt (c77 N) a77 [1, 1, 1, 0, 1, 0] [] (codeOf Try.f77) (k77 N) n (h77_0 w0 w1 w2 w3 w4)) = m_keys_Unpack_l0 N n := by
      funext w0 w1 w2 w3 w4; exact ih w0 w1 w2 w3 w4
    rw [es]
    rw [m_keys_Unpack_l0]
theorem ew77 : ∀ (N : Nat) (x : g77.ps.den), evalFn (c77 N) an77 Try.f77 (codeOf Try.f77) g77 x (fun p => (p.1.1, p.1.2.1)) = m_keys_Unpack_a (m_keys_Unpack_l0 N N) x.1 x.2.1 := by
  intro N
  intro x
  obtain ⟨x0, x1, xu⟩ := x
  have e : evalFn (c77 N) an77 Try.f77 (codeOf Try.f77) g77 (x0, x1, xu) (fun p => (p.1.1, p.1.2.1)) = m_keys_Unpack_a (fun w0 w1 w2 w3 w4 => loopAt (c77 N) a77 [1, 1, 1, 0, 1, 0] [] (codeOf Try.f77) (k77 N) N (h77_0 w0 w1 w2 w3 w4)) x0 x1 := by kernel_rfl
  refine e.trans ?_
  have e0 : (fun w0 w1 w2 w3 w4 => loopAt (c77 N) a77 [1, 1, 1, 0, 1, 0] [] (codeOf Try.f77) (k77 N) N (h77_0 w0 w1 w2 w3 w4)) = m_keys_Unpack_l0 N N := by
    funext w0 w1 w2 w3 w4; exact t77_0 N N w0 w1 w2 w3 w4
  rw [e0]
theorem ev77 : ∀ x : g77.ps.den, evalFn (c77 FUEL) an77 Try.f77 (codeOf Try.f77) g77 x (fun p => (p.1.1, p.1.2.1)) = g77.m x := fun x => ew77 FUEL x
theorem meets77 : Meets Try.prog 77 g77 :=
  meets_of (C := c77 FUEL) (ann := an77) (mkC_ok (gs := [(68, g68)]) (is := []) (mt := mtL) tysOK elemOK ⟨meets68, trivial⟩ trivial mtOK FUEL) mixed Try.func77 (by kernel_rfl) (by kernel_rfl) (by kernel_rfl) (of_decide_eq_true (by kernel_rfl)) (fun p => (p.1.1, p.1.2.1)) (fun _ _ => ⟨rfl, rfl⟩) ev77
def c76 (N : Nat) : Cx := mkC tyL [(68, g68), (77, g77)] [] mtL N
def g76 : Sig := ⟨(.cons (.rptr (.arr 128 (.int .u64))) (.cons (.pure (.int .i64)) .nl)), (.cons (.pure .str) (.cons (.pure (.int .i64)) .nl)), (ByteArray × Int), fun x => m_slot_fence x.1 x.2.1, fun _ y => (y.1, (y.2, ())), fun _ y => ((), ((), ()))⟩
def an76 : Nat → Ann := mkA [(6, ⟨[0, 1, 6, 7, 32, 33, 34], [], [], false, []⟩)]
noncomputable def k76 (N : Nat) : Ex → St → Option (ByteArray × Int) := finK (c76 N) Try.f76 g76 (.cons .top (.cons .top .nl)) (fun p => (p.1.1, p.1.2.1))
def a76 : Nat → Ann := annP [] an76
def h76_0 (u0_0 : (List Int)) (u0_1 : Int) (u0_2 : Int) (u0_3 : Int) (u0_4 : (List Int)) (u0_5 : Int) (u0_6 : Int) : St := ⟨51, [(0, (.pref (.arr 128 (.int .u64)) u0_0)), (1, (.int .i64 u0_1)), (6, (.int .i64 u0_2)), (7, (.int .i64 u0_3)), (32, (.lst (.int .u64) u0_4)), (33, (.int .i64 u0_5)), (34, (.int .i64 u0_6))], []⟩
theorem t76_0 : ∀ (N : Nat) (n : Nat) (u0_0 : (List Int)) (u0_1 : Int) (u0_2 : Int) (u0_3 : Int) (u0_4 : (List Int)) (u0_5 : Int) (u0_6 : Int), loopAt (c76 N) a76 [1, 1, 1, 1, 0, 1, 0] [] (codeOf Try.f76) (k76 N) n (h76_0 u0_0 u0_1 u0_2 u0_3 u0_4 u0_5 u0_6) = m_slot_fence_l0 N n u0_0 u0_1 u0_2 u0_3 u0_4 u0_5 u0_6 := by
  intro N n
  induction n with
  | zero => intro u0_0 u0_1 u0_2 u0_3 u0_4 u0_5 u0_6; kernel_rfl
  | succ n ih =>
    intro u0_0 u0_1 u0_2 u0_3 u0_4 u0_5 u0_6
    have e : loopAt (c76 N) a76 [1, 1, 1, 1, 0, 1, 0] [] (codeOf Try.f76) (k76 N) (n + 1) (h76_0 u0_0 u0_1 u0_2 u0_3 u0_4 u0_5 u0_6) = m_slot_fence_l0_b (fun w0 w1 w2 w3 w4 w5 w6 => loopAt (c76 N) a76 [1, 1, 1, 1, 0, 1, 0] [] (codeOf Try.f76) (k76 N) n (h76_0 w0 w1 w2 w3 w4 w5 w6)) u0_0 u0_1 u0_2 u0_3 u0_4 u0_5 u0_6 := by kernel_rfl
    refine e.trans ?_
    have es : (fun w0 w1 w2 w3 w4 w5 w6 => loopAt (c76 N) a76 [1, 1, 1, 1, 0, 1, 0] [] (codeOf Try.f76) (k76 N) n (h76_0 w0 w1 w2 w3 w4 w5 w6)) = m_slot_fence_l0 N n := by
      funext w0 w1 w2 w3 w4 w5 w6; exact ih w0 w1 w2 w3 w4 w5 w6
    rw [es]
    rw [m_slot_fence_l0]
theorem ew76 : ∀ (N : Nat) (x : g76.ps.den), evalFn (c76 N) an76 Try.f76 (codeOf Try.f76) g76 x (fun p => (p.1.1, p.1.2.1)) = m_slot_fence_a (m_slot_fence_l0 N N) x.1 x.2.1 := by
  intro N
  intro x
  obtain ⟨x0, x1, xu⟩ := x
  have e : evalFn (c76 N) an76 Try.f76 (codeOf Try.f76) g76 (x0, x1, xu) (fun p => (p.1.1, p.1.2.1)) = m_slot_fence_a (fun w0 w1 w2 w3 w4 w5 w6 => loopAt (c76 N) a76 [1, 1, 1, 1, 0, 1, 0] [] (codeOf Try.f76) (k76 N) N (h76_0 w0 w1 w2 w3 w4 w5 w6)) x0 x1 := by kernel_rfl
  refine e.trans ?_
  have e0 : (fun w0 w1 w2 w3 w4 w5 w6 => loopAt (c76 N) a76 [1, 1, 1, 1, 0, 1, 0] [] (codeOf Try.f76) (k76 N) N (h76_0 w0 w1 w2 w3 w4 w5 w6)) = m_slot_fence_l0 N N := by
    funext w0 w1 w2 w3 w4 w5 w6; exact t76_0 N N w0 w1 w2 w3 w4 w5 w6
  rw [e0]
theorem ev76 : ∀ x : g76.ps.den, evalFn (c76 FUEL) an76 Try.f76 (codeOf Try.f76) g76 x (fun p => (p.1.1, p.1.2.1)) = g76.m x := fun x => ew76 FUEL x
theorem meets76 : Meets Try.prog 76 g76 :=
  meets_of (C := c76 FUEL) (ann := an76) (mkC_ok (gs := [(68, g68), (77, g77)]) (is := []) (mt := mtL) tysOK elemOK ⟨meets68, meets77, trivial⟩ trivial mtOK FUEL) mixed Try.func76 (by kernel_rfl) (by kernel_rfl) (by kernel_rfl) (of_decide_eq_true (by kernel_rfl)) (fun p => (p.1.1, p.1.2.1)) (fun _ _ => ⟨rfl, rfl⟩) ev76
def c69 (N : Nat) : Cx := mkC tyL [(76, g76)] [] mtL N
def g69 : Sig := ⟨(.cons (.rptr (.arr 128 (.int .u64))) .nl), (.cons (.pure .bool) .nl), Bool, fun x => m_slot_head x.1, fun _ y => (y, ()), fun _ y => ((), ())⟩
def an69 : Nat → Ann := mkA []
theorem ev69 : ∀ x : g69.ps.den, evalFn (c69 FUEL) an69 Try.f69 (codeOf Try.f69) g69 x (fun p => p.1.1) = g69.m x := by
  intro x
  obtain ⟨x0, xu⟩ := x
  show _ = _
  kernel_rfl
theorem meets69 : Meets Try.prog 69 g69 :=
  meets_of (C := c69 FUEL) (ann := an69) (mkC_ok (gs := [(76, g76)]) (is := []) (mt := mtL) tysOK elemOK ⟨meets76, trivial⟩ trivial mtOK FUEL) mixed Try.func69 (by kernel_rfl) (by kernel_rfl) (by kernel_rfl) (of_decide_eq_true (by kernel_rfl)) (fun p => p.1.1) (fun _ _ => ⟨rfl, rfl⟩) ev69
def c71 (N : Nat) : Cx := mkC tyL [(68, g68)] [] mtL N
def g71 : Sig := ⟨(.cons (.pure (.int .u64)) .nl), (.cons (.pure (.pair (.int .i64) (.pair (.int .i64) (.pair (.int .i64) (.pair (.int .i64) (.pair (.int .i64) .nl)))))) .nl), (Int × (Int × (Int × (Int × (Int × Unit))))), fun x => m_slot_entryOf x.1, fun _ y => (y, ()), fun _ y => ((), ())⟩
def an71 : Nat → Ann := mkA []
theorem ev71 : ∀ x : g71.ps.den, evalFn (c71 FUEL) an71 Try.f71 (codeOf Try.f71) g71 x (fun p => p.1.1) = g71.m x := by
  intro x
  obtain ⟨x0, xu⟩ := x
  show _ = _
  kernel_rfl
theorem meets71 : Meets Try.prog 71 g71 :=
  meets_of (C := c71 FUEL) (ann := an71) (mkC_ok (gs := [(68, g68)]) (is := []) (mt := mtL) tysOK elemOK ⟨meets68, trivial⟩ trivial mtOK FUEL) mixed Try.func71 (by kernel_rfl) (by kernel_rfl) (by kernel_rfl) (of_decide_eq_true (by kernel_rfl)) (fun p => p.1.1) (fun _ _ => ⟨rfl, rfl⟩) ev71
def c70 (N : Nat) : Cx := mkC tyL [(71, g71)] [] mtL N
def g70 : Sig := ⟨(.cons (.rptr (.arr 128 (.int .u64))) (.cons (.pure (.int .i64)) .nl)), (.cons (.pure .bool) .nl), Bool, fun x => m_slot_sized x.1 x.2.1, fun _ y => (y, ()), fun _ y => ((), ((), ()))⟩
def an70 : Nat → Ann := mkA []
theorem ev70 : ∀ x : g70.ps.den, evalFn (c70 FUEL) an70 Try.f70 (codeOf Try.f70) g70 x (fun p => p.1.1) = g70.m x := by
  intro x
  obtain ⟨x0, x1, xu⟩ := x
  show _ = _
  kernel_rfl
theorem meets70 : Meets Try.prog 70 g70 :=
  meets_of (C := c70 FUEL) (ann := an70) (mkC_ok (gs := [(71, g71)]) (is := []) (mt := mtL) tysOK elemOK ⟨meets71, trivial⟩ trivial mtOK FUEL) mixed Try.func70 (by kernel_rfl) (by kernel_rfl) (by kernel_rfl) (of_decide_eq_true (by kernel_rfl)) (fun p => p.1.1) (fun _ _ => ⟨rfl, rfl⟩) ev70
def c72 (N : Nat) : Cx := mkC tyL [(77, g77)] [] mtL N
def g72 : Sig := ⟨(.cons (.rptr (.arr 128 (.int .u64))) (.cons (.pure (.pair (.int .i64) (.pair (.int .i64) (.pair (.int .i64) (.pair (.int .i64) (.pair (.int .i64) .nl)))))) .nl)), (.cons (.pure (.pair .str (.pair .str .nl))) (.cons (.pure (.int .i64)) .nl)), ((ByteArray × (ByteArray × Unit)) × Int), fun x => m_slot_text x.1 x.2.1, fun _ y => (y.1, (y.2, ())), fun _ y => ((), ((), ()))⟩
def an72 : Nat → Ann := mkA []
theorem ev72 : ∀ x : g72.ps.den, evalFn (c72 FUEL) an72 Try.f72 (codeOf Try.f72) g72 x (fun p => (p.1.1, p.1.2.1)) = g72.m x := by
  intro x
  obtain ⟨x0, x1, xu⟩ := x
  show _ = _
  kernel_rfl
theorem meets72 : Meets Try.prog 72 g72 :=
  meets_of (C := c72 FUEL) (ann := an72) (mkC_ok (gs := [(77, g77)]) (is := []) (mt := mtL) tysOK elemOK ⟨meets77, trivial⟩ trivial mtOK FUEL) mixed Try.func72 (by kernel_rfl) (by kernel_rfl) (by kernel_rfl) (of_decide_eq_true (by kernel_rfl)) (fun p => (p.1.1, p.1.2.1)) (fun _ _ => ⟨rfl, rfl⟩) ev72

end Go.Proofs.Ytiknbfledplnlaa
