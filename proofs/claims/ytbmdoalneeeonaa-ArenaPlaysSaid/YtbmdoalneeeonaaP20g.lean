/- A part of the proof of a statement of this seat: the functions keep their promises. No condition. -/
import Derived.Test.YtbmdoalneeeonaaP20f
set_option linter.unusedVariables false
set_option maxRecDepth 100000
namespace Go.Proofs.Ytbmdoalneeeonaa
open Go Go.Ev Go.Ev.M Go.Proofs
def c6 (N : Nat) : Cx := mkC tyL [(10, g10), (11, g11), (20, g20), (23, g23), (24, g24), (25, g25), (27, g27), (28, g28), (29, g29), (30, g30), (31, g31), (32, g32)] [] mtL N
def g6 : Sig := ⟨(.cons (.pure (.int .i64)) (.cons (.pure (.int .u8)) (.cons (.pure (.sl (.pair (.int .i64) (.pair (.int .i64) (.pair (.pair (.int .i64) (.pair (.int .i64) (.pair .str (.pair .str (.pair (.sl (.pair .str (.pair .str .nl))) (.pair (.sl (.int .u8)) (.pair (.sl (.pair (.int .u8) (.pair (.int .u64) .nl))) .nl))))))) .nl))))) (.cons (.pure (.sl (.int .u16))) (.cons (.pure (.sl (.int .u64))) (.cons (.pure (.int .u16)) .nl)))))), (.cons (.pure .bool) .nl), Bool, fun x => m_ticketlinelaw20_ArenaOpens x.1 x.2.1 x.2.2.1 x.2.2.2.1 x.2.2.2.2.1 x.2.2.2.2.2.1, fun _ y => (y, ()), fun _ y => ((), ((), ((), ((), ((), ((), ()))))))⟩
def an6 : Nat → Ann := mkA [(7, ⟨[2, 3, 4, 5, 13, 14, 15], [], [201664, 201667], false, [(201664, [.fld 0, .fld 0], (.ptr (.cons (.own (.int .u64)) .nl)), 2003226624), (201667, [.fld 0], (.own (.int .u64)), 2003226672)]⟩), (13, ⟨[3, 4, 5, 16, 17], [], [75], false, []⟩), (21, ⟨[16, 18, 19], [], [75, 203392], false, [(203392, [.fld 0], (.own (.int .u64)), 2003254272)]⟩)]
noncomputable def k6 (N : Nat) : Ex → St → Option Bool := finK (c6 N) Try.f6 g6 (.cons .top (.cons .top (.cons .top (.cons .top (.cons .top (.cons .top .nl)))))) (fun p => p.1.1)
def a6 : Nat → Ann := annP [] an6
def h6_2 (u2_0 : Int) (u2_1 : Int) (u2_2 : Int) (u2_3 : (List Int)) (u2_4 : (List Int)) : St := ⟨164, [(16, (.view 75 [] u2_0 u2_1)), (18, (.ref 203392 [])), (19, (.int .i64 u2_2))], [(75, (.bk (.int .u64) u2_3)), (203392, (.cons (.full 2003254272) .nl)), (2003254272, (.bk (.int .u64) u2_4))]⟩
def h6_1 (u1_0 : (List Int)) (u1_1 : (List Int)) (u1_2 : Int) (u1_3 : Int) (u1_4 : (List Int)) : St := ⟨164, [(3, (.lst (.int .u16) u1_0)), (4, (.lst (.int .u64) u1_1)), (5, (.int .u16 u1_2)), (16, (.full 75)), (17, (.int .i64 u1_3))], [(75, (.bk (.int .u64) u1_4))]⟩
def h6_0 (u0_0 : (List (Int × (Int × ((Int × (Int × (ByteArray × (ByteArray × ((List (ByteArray × (ByteArray × Unit))) × ((List Int) × ((List (Int × (Int × Unit))) × Unit))))))) × Unit))))) (u0_1 : (List Int)) (u0_2 : (List Int)) (u0_3 : Int) (u0_4 : Int) (u0_5 : (List Int)) (u0_6 : (List Int)) : St := ⟨164, [(2, (.lst (.pair (.int .i64) (.pair (.int .i64) (.pair (.pair (.int .i64) (.pair (.int .i64) (.pair .str (.pair .str (.pair (.sl (.pair .str (.pair .str .nl))) (.pair (.sl (.int .u8)) (.pair (.sl (.pair (.int .u8) (.pair (.int .u64) .nl))) .nl))))))) .nl))) u0_0)), (3, (.lst (.int .u16) u0_1)), (4, (.lst (.int .u64) u0_2)), (5, (.int .u16 u0_3)), (13, (.ref 201664 [])), (14, (.ref 201667 [])), (15, (.int .i64 u0_4))], [(201664, (.cons (.cons (.ref 2003226624 []) .nl) .nl)), (201667, (.cons (.full 2003226672) .nl)), (2003226624, (.cons (.full 2003226625) .nl)), (2003226625, (.bk (.int .u64) u0_5)), (2003226672, (.bk (.int .u64) u0_6))]⟩
theorem t6_2 : ∀ (N : Nat) (n : Nat) (u2_0 : Int) (u2_1 : Int) (u2_2 : Int) (u2_3 : (List Int)) (u2_4 : (List Int)), loopAt (c6 N) a6 [1, 1, 1, 1, 1, 1, 1, 1, 1, 1, 0, 1, 0] [] (codeOf Try.f6) (k6 N) n (h6_2 u2_0 u2_1 u2_2 u2_3 u2_4) = m_ticketlinelaw20_ArenaOpens_l2 N n u2_0 u2_1 u2_2 u2_3 u2_4 := by
  intro N n
  induction n with
  | zero => intro u2_0 u2_1 u2_2 u2_3 u2_4; kernel_rfl
  | succ n ih =>
    intro u2_0 u2_1 u2_2 u2_3 u2_4
    have e : loopAt (c6 N) a6 [1, 1, 1, 1, 1, 1, 1, 1, 1, 1, 0, 1, 0] [] (codeOf Try.f6) (k6 N) (n + 1) (h6_2 u2_0 u2_1 u2_2 u2_3 u2_4) = m_ticketlinelaw20_ArenaOpens_l2_b (fun w0 w1 w2 w3 w4 => loopAt (c6 N) a6 [1, 1, 1, 1, 1, 1, 1, 1, 1, 1, 0, 1, 0] [] (codeOf Try.f6) (k6 N) n (h6_2 w0 w1 w2 w3 w4)) u2_0 u2_1 u2_2 u2_3 u2_4 := by kernel_rfl
    refine e.trans ?_
    have es : (fun w0 w1 w2 w3 w4 => loopAt (c6 N) a6 [1, 1, 1, 1, 1, 1, 1, 1, 1, 1, 0, 1, 0] [] (codeOf Try.f6) (k6 N) n (h6_2 w0 w1 w2 w3 w4)) = m_ticketlinelaw20_ArenaOpens_l2 N n := by
      funext w0 w1 w2 w3 w4; exact ih w0 w1 w2 w3 w4
    rw [es]
    rw [m_ticketlinelaw20_ArenaOpens_l2]
theorem t6_1 : ∀ (N : Nat) (n : Nat) (u1_0 : (List Int)) (u1_1 : (List Int)) (u1_2 : Int) (u1_3 : Int) (u1_4 : (List Int)), loopAt (c6 N) a6 [1, 1, 1, 1, 1, 1, 0, 1, 0] [] (codeOf Try.f6) (k6 N) n (h6_1 u1_0 u1_1 u1_2 u1_3 u1_4) = m_ticketlinelaw20_ArenaOpens_l1 N n u1_0 u1_1 u1_2 u1_3 u1_4 := by
  intro N n
  induction n with
  | zero => intro u1_0 u1_1 u1_2 u1_3 u1_4; kernel_rfl
  | succ n ih =>
    intro u1_0 u1_1 u1_2 u1_3 u1_4
    have e : loopAt (c6 N) a6 [1, 1, 1, 1, 1, 1, 0, 1, 0] [] (codeOf Try.f6) (k6 N) (n + 1) (h6_1 u1_0 u1_1 u1_2 u1_3 u1_4) = m_ticketlinelaw20_ArenaOpens_l1_b (fun w0 w1 w2 w3 w4 => loopAt (c6 N) a6 [1, 1, 1, 1, 1, 1, 0, 1, 0] [] (codeOf Try.f6) (k6 N) n (h6_1 w0 w1 w2 w3 w4)) (fun w0 w1 w2 w3 w4 => loopAt (c6 N) a6 [1, 1, 1, 1, 1, 1, 1, 1, 1, 1, 0, 1, 0] [] (codeOf Try.f6) (k6 N) N (h6_2 w0 w1 w2 w3 w4)) u1_0 u1_1 u1_2 u1_3 u1_4 := by kernel_rfl
    refine e.trans ?_
    have e2 : (fun w0 w1 w2 w3 w4 => loopAt (c6 N) a6 [1, 1, 1, 1, 1, 1, 1, 1, 1, 1, 0, 1, 0] [] (codeOf Try.f6) (k6 N) N (h6_2 w0 w1 w2 w3 w4)) = m_ticketlinelaw20_ArenaOpens_l2 N N := by
      funext w0 w1 w2 w3 w4; exact t6_2 N N w0 w1 w2 w3 w4
    rw [e2]
    have es : (fun w0 w1 w2 w3 w4 => loopAt (c6 N) a6 [1, 1, 1, 1, 1, 1, 0, 1, 0] [] (codeOf Try.f6) (k6 N) n (h6_1 w0 w1 w2 w3 w4)) = m_ticketlinelaw20_ArenaOpens_l1 N n := by
      funext w0 w1 w2 w3 w4; exact ih w0 w1 w2 w3 w4
    rw [es]
    rw [m_ticketlinelaw20_ArenaOpens_l1]
theorem t6_0 : ∀ (N : Nat) (n : Nat) (u0_0 : (List (Int × (Int × ((Int × (Int × (ByteArray × (ByteArray × ((List (ByteArray × (ByteArray × Unit))) × ((List Int) × ((List (Int × (Int × Unit))) × Unit))))))) × Unit))))) (u0_1 : (List Int)) (u0_2 : (List Int)) (u0_3 : Int) (u0_4 : Int) (u0_5 : (List Int)) (u0_6 : (List Int)), loopAt (c6 N) a6 [1, 1, 1, 1, 0, 1, 0] [] (codeOf Try.f6) (k6 N) n (h6_0 u0_0 u0_1 u0_2 u0_3 u0_4 u0_5 u0_6) = m_ticketlinelaw20_ArenaOpens_l0 N n u0_0 u0_1 u0_2 u0_3 u0_4 u0_5 u0_6 := by
  intro N n
  induction n with
  | zero => intro u0_0 u0_1 u0_2 u0_3 u0_4 u0_5 u0_6; kernel_rfl
  | succ n ih =>
    intro u0_0 u0_1 u0_2 u0_3 u0_4 u0_5 u0_6
    have e : loopAt (c6 N) a6 [1, 1, 1, 1, 0, 1, 0] [] (codeOf Try.f6) (k6 N) (n + 1) (h6_0 u0_0 u0_1 u0_2 u0_3 u0_4 u0_5 u0_6) = m_ticketlinelaw20_ArenaOpens_l0_b (fun w0 w1 w2 w3 w4 w5 w6 => loopAt (c6 N) a6 [1, 1, 1, 1, 0, 1, 0] [] (codeOf Try.f6) (k6 N) n (h6_0 w0 w1 w2 w3 w4 w5 w6)) (fun w0 w1 w2 w3 w4 => loopAt (c6 N) a6 [1, 1, 1, 1, 1, 1, 0, 1, 0] [] (codeOf Try.f6) (k6 N) N (h6_1 w0 w1 w2 w3 w4)) u0_0 u0_1 u0_2 u0_3 u0_4 u0_5 u0_6 := by kernel_rfl
    refine e.trans ?_
    have e1 : (fun w0 w1 w2 w3 w4 => loopAt (c6 N) a6 [1, 1, 1, 1, 1, 1, 0, 1, 0] [] (codeOf Try.f6) (k6 N) N (h6_1 w0 w1 w2 w3 w4)) = m_ticketlinelaw20_ArenaOpens_l1 N N := by
      funext w0 w1 w2 w3 w4; exact t6_1 N N w0 w1 w2 w3 w4
    rw [e1]
    have es : (fun w0 w1 w2 w3 w4 w5 w6 => loopAt (c6 N) a6 [1, 1, 1, 1, 0, 1, 0] [] (codeOf Try.f6) (k6 N) n (h6_0 w0 w1 w2 w3 w4 w5 w6)) = m_ticketlinelaw20_ArenaOpens_l0 N n := by
      funext w0 w1 w2 w3 w4 w5 w6; exact ih w0 w1 w2 w3 w4 w5 w6
    rw [es]
    rw [m_ticketlinelaw20_ArenaOpens_l0]
theorem ew6 : ∀ (N : Nat) (x : g6.ps.den), evalFn (c6 N) an6 Try.f6 (codeOf Try.f6) g6 x (fun p => p.1.1) = m_ticketlinelaw20_ArenaOpens_a (m_ticketlinelaw20_ArenaOpens_l0 N N) x.1 x.2.1 x.2.2.1 x.2.2.2.1 x.2.2.2.2.1 x.2.2.2.2.2.1 := by
  intro N
  intro x
  obtain ⟨x0, x1, x2, x3, x4, x5, xu⟩ := x
  have e : evalFn (c6 N) an6 Try.f6 (codeOf Try.f6) g6 (x0, x1, x2, x3, x4, x5, xu) (fun p => p.1.1) = m_ticketlinelaw20_ArenaOpens_a (fun w0 w1 w2 w3 w4 w5 w6 => loopAt (c6 N) a6 [1, 1, 1, 1, 0, 1, 0] [] (codeOf Try.f6) (k6 N) N (h6_0 w0 w1 w2 w3 w4 w5 w6)) x0 x1 x2 x3 x4 x5 := by kernel_rfl
  refine e.trans ?_
  have e0 : (fun w0 w1 w2 w3 w4 w5 w6 => loopAt (c6 N) a6 [1, 1, 1, 1, 0, 1, 0] [] (codeOf Try.f6) (k6 N) N (h6_0 w0 w1 w2 w3 w4 w5 w6)) = m_ticketlinelaw20_ArenaOpens_l0 N N := by
    funext w0 w1 w2 w3 w4 w5 w6; exact t6_0 N N w0 w1 w2 w3 w4 w5 w6
  rw [e0]
theorem ev6 : ∀ x : g6.ps.den, evalFn (c6 FUEL) an6 Try.f6 (codeOf Try.f6) g6 x (fun p => p.1.1) = g6.m x := fun x => ew6 FUEL x
theorem meets6 : Meets Try.prog 6 g6 :=
  meets_of (C := c6 FUEL) (ann := an6) (mkC_ok (gs := [(10, g10), (11, g11), (20, g20), (23, g23), (24, g24), (25, g25), (27, g27), (28, g28), (29, g29), (30, g30), (31, g31), (32, g32)]) (is := []) (mt := mtL) tysOK elemOK ⟨meets10, meets11, meets20, meets23, meets24, meets25, meets27, meets28, meets29, meets30, meets31, meets32, trivial⟩ trivial mtOK FUEL) mixed Try.func6 (by kernel_rfl) (by kernel_rfl) (by kernel_rfl) (of_decide_eq_true (by kernel_rfl)) (fun p => p.1.1) (fun _ _ => ⟨rfl, rfl⟩) ev6
noncomputable def c34 (N : Nat) : Cx := mkC tyL [(21, g21)] [(48, i48)] mtL N
def g34 : Sig := ⟨(.cons (.ptr (.cons (.cons (.ptr (.cons (.own (.int .u64)) .nl)) .nl) .nl)) .nl), (.cons (.nptr (.cons (.cons (.ptr (.cons (.own (.int .u64)) .nl)) .nl) .nl)) .nl), ((Option ((((List Int) × Unit) × Unit) × Unit)) × ((((List Int) × Unit) × Unit) × Unit)), fun x => m_arena_Arena_Copy x.1, fun _ y => (y.1, ()), fun _ y => (y.2, ())⟩
def an34 : Nat → Ann := mkA []
theorem ev34 : ∀ x : g34.ps.den, evalFn (c34 FUEL) an34 Try.f34 (codeOf Try.f34) g34 x (fun p => (p.1.1, p.2.1)) = g34.m x := by
  intro x
  obtain ⟨x0, xu⟩ := x
  show _ = _
  kernel_rfl
theorem meets34 : Meets Try.prog 34 g34 :=
  meets_of (C := c34 FUEL) (ann := an34) (mkC_ok (gs := [(21, g21)]) (is := [(48, i48)]) (mt := mtL) tysOK elemOK ⟨meets21, trivial⟩ ⟨inl48, trivial⟩ mtOK FUEL) mixed Try.func34 (by kernel_rfl) (by kernel_rfl) (by kernel_rfl) (of_decide_eq_true (by kernel_rfl)) (fun p => (p.1.1, p.2.1)) (fun _ _ => ⟨rfl, rfl⟩) ev34
def c8 (N : Nat) : Cx := mkC tyL [(10, g10), (14, g14), (16, g16), (24, g24), (27, g27), (28, g28), (31, g31), (34, g34)] [] mtL N
def g8 : Sig := ⟨(.cons (.pure (.int .i64)) (.cons (.pure (.int .u8)) (.cons (.pure (.sl (.pair (.int .i64) (.pair (.int .i64) (.pair (.pair (.int .i64) (.pair (.int .i64) (.pair .str (.pair .str (.pair (.sl (.pair .str (.pair .str .nl))) (.pair (.sl (.int .u8)) (.pair (.sl (.pair (.int .u8) (.pair (.int .u64) .nl))) .nl))))))) .nl))))) .nl))), (.cons (.pure .bool) .nl), Bool, fun x => m_ticketlinelaw20_ArenaPlays x.1 x.2.1 x.2.2.1, fun _ y => (y, ()), fun _ y => ((), ((), ((), ())))⟩
def an8 : Nat → Ann := mkA [(7, ⟨[2, 8, 9], [(7, (.ptr (.cons (.cons (.ptr (.cons (.own (.int .u64)) .nl)) .nl) .nl)), 2100000112)], [200835], false, [(200835, [.fld 0], (.own (.int .u64)), 2003213360)]⟩)]
noncomputable def k8 (N : Nat) : Ex → St → Option Bool := finK (c8 N) Try.f8 g8 (.cons .top (.cons .top (.cons .top .nl))) (fun p => p.1.1)
def a8 : Nat → Ann := annP [] an8
def h8_0 (u0_0 : (List (Int × (Int × ((Int × (Int × (ByteArray × (ByteArray × ((List (ByteArray × (ByteArray × Unit))) × ((List Int) × ((List (Int × (Int × Unit))) × Unit))))))) × Unit))))) (u0_1 : Int) (u0_2 : (List Int)) (u0_3 : (List Int)) : St := ⟨82, [(7, .ref 2100000112 []), (2, (.lst (.pair (.int .i64) (.pair (.int .i64) (.pair (.pair (.int .i64) (.pair (.int .i64) (.pair .str (.pair .str (.pair (.sl (.pair .str (.pair .str .nl))) (.pair (.sl (.int .u8)) (.pair (.sl (.pair (.int .u8) (.pair (.int .u64) .nl))) .nl))))))) .nl))) u0_0)), (8, (.ref 200835 [])), (9, (.int .i64 u0_1))], [(200835, (.cons (.full 2003213360) .nl)), (2100000112, (.cons (.cons (.ref 2100000113 []) .nl) .nl)), (2100000113, (.cons (.full 2100000114) .nl)), (2100000114, (.bk (.int .u64) u0_2)), (2003213360, (.bk (.int .u64) u0_3))]⟩
theorem t8_0 : ∀ (N : Nat) (n : Nat) (u0_0 : (List (Int × (Int × ((Int × (Int × (ByteArray × (ByteArray × ((List (ByteArray × (ByteArray × Unit))) × ((List Int) × ((List (Int × (Int × Unit))) × Unit))))))) × Unit))))) (u0_1 : Int) (u0_2 : (List Int)) (u0_3 : (List Int)), loopAt (c8 N) a8 [1, 1, 1, 1, 0, 1, 0] [] (codeOf Try.f8) (k8 N) n (h8_0 u0_0 u0_1 u0_2 u0_3) = m_ticketlinelaw20_ArenaPlays_l0 N n u0_0 u0_1 u0_2 u0_3 := by
  intro N n
  induction n with
  | zero => intro u0_0 u0_1 u0_2 u0_3; kernel_rfl
  | succ n ih =>
    intro u0_0 u0_1 u0_2 u0_3
    have e : loopAt (c8 N) a8 [1, 1, 1, 1, 0, 1, 0] [] (codeOf Try.f8) (k8 N) (n + 1) (h8_0 u0_0 u0_1 u0_2 u0_3) = m_ticketlinelaw20_ArenaPlays_l0_b (fun w0 w1 w2 w3 => loopAt (c8 N) a8 [1, 1, 1, 1, 0, 1, 0] [] (codeOf Try.f8) (k8 N) n (h8_0 w0 w1 w2 w3)) u0_0 u0_1 u0_2 u0_3 := by kernel_rfl
    refine e.trans ?_
    have es : (fun w0 w1 w2 w3 => loopAt (c8 N) a8 [1, 1, 1, 1, 0, 1, 0] [] (codeOf Try.f8) (k8 N) n (h8_0 w0 w1 w2 w3)) = m_ticketlinelaw20_ArenaPlays_l0 N n := by
      funext w0 w1 w2 w3; exact ih w0 w1 w2 w3
    rw [es]
    rw [m_ticketlinelaw20_ArenaPlays_l0]
theorem ew8 : ∀ (N : Nat) (x : g8.ps.den), evalFn (c8 N) an8 Try.f8 (codeOf Try.f8) g8 x (fun p => p.1.1) = m_ticketlinelaw20_ArenaPlays_a (m_ticketlinelaw20_ArenaPlays_l0 N N) x.1 x.2.1 x.2.2.1 := by
  intro N
  intro x
  obtain ⟨x0, x1, x2, xu⟩ := x
  have e : evalFn (c8 N) an8 Try.f8 (codeOf Try.f8) g8 (x0, x1, x2, xu) (fun p => p.1.1) = m_ticketlinelaw20_ArenaPlays_a (fun w0 w1 w2 w3 => loopAt (c8 N) a8 [1, 1, 1, 1, 0, 1, 0] [] (codeOf Try.f8) (k8 N) N (h8_0 w0 w1 w2 w3)) x0 x1 x2 := by kernel_rfl
  refine e.trans ?_
  have e0 : (fun w0 w1 w2 w3 => loopAt (c8 N) a8 [1, 1, 1, 1, 0, 1, 0] [] (codeOf Try.f8) (k8 N) N (h8_0 w0 w1 w2 w3)) = m_ticketlinelaw20_ArenaPlays_l0 N N := by
    funext w0 w1 w2 w3; exact t8_0 N N w0 w1 w2 w3
  rw [e0]
theorem ev8 : ∀ x : g8.ps.den, evalFn (c8 FUEL) an8 Try.f8 (codeOf Try.f8) g8 x (fun p => p.1.1) = g8.m x := fun x => ew8 FUEL x
theorem meets8 : Meets Try.prog 8 g8 :=
  meets_of (C := c8 FUEL) (ann := an8) (mkC_ok (gs := [(10, g10), (14, g14), (16, g16), (24, g24), (27, g27), (28, g28), (31, g31), (34, g34)]) (is := []) (mt := mtL) tysOK elemOK ⟨meets10, meets14, meets16, meets24, meets27, meets28, meets31, meets34, trivial⟩ trivial mtOK FUEL) mixed Try.func8 (by kernel_rfl) (by kernel_rfl) (by kernel_rfl) (of_decide_eq_true (by kernel_rfl)) (fun p => p.1.1) (fun _ _ => ⟨rfl, rfl⟩) ev8
end Go.Proofs.Ytbmdoalneeeonaa
