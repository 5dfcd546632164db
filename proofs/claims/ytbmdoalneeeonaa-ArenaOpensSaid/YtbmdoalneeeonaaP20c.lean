/- A part of the proof of a statement of this seat: the functions keep their promises. No condition. -/
import Derived.Test.YtbmdoalneeeonaaP20b
set_option linter.unusedVariables false
set_option maxRecDepth 100000
namespace Go.Proofs.Ytbmdoalneeeonaa
open Go Go.Ev Go.Ev.M Go.Proofs
def c10 (N : Nat) : Cx := mkC tyL [(9, g9), (11, g11), (12, g12), (15, g15), (18, g18), (20, g20), (22, g22), (23, g23), (24, g24), (25, g25), (36, g36), (37, g37), (38, g38), (39, g39), (40, g40)] [] mtL N
def g10 : Sig := ⟨.nl, (.cons (.pure .bool) .nl), Bool, fun x => m_ticketlinelaw20_known, fun _ y => (y, ()), fun _ y => ()⟩
def an10 : Nat → Ann := mkA []
theorem ev10 : ∀ x : g10.ps.den, evalFn (c10 FUEL) an10 Try.f10 (codeOf Try.f10) g10 x (fun p => p.1.1) = g10.m x := by
  intro x
  show _ = _
  kernel_rfl
theorem meets10 : Meets Try.prog 10 g10 :=
  meets_of (C := c10 FUEL) (ann := an10) (mkC_ok (gs := [(9, g9), (11, g11), (12, g12), (15, g15), (18, g18), (20, g20), (22, g22), (23, g23), (24, g24), (25, g25), (36, g36), (37, g37), (38, g38), (39, g39), (40, g40)]) (is := []) (mt := mtL) tysOK elemOK ⟨meets9, meets11, meets12, meets15, meets18, meets20, meets22, meets23, meets24, meets25, meets36, meets37, meets38, meets39, meets40, trivial⟩ trivial mtOK FUEL) mixed Try.func10 (by kernel_rfl) (by kernel_rfl) (by kernel_rfl) (of_decide_eq_true (by kernel_rfl)) (fun p => p.1.1) (fun _ _ => ⟨rfl, rfl⟩) ev10
def c3 (N : Nat) : Cx := mkC tyL [(9, g9), (10, g10)] [] mtL N
def g3 : Sig := ⟨(.cons (.pure (.int .i64)) (.cons (.pure (.int .i64)) .nl)), (.cons (.pure .bool) .nl), Bool, fun x => m_ticketlinelaw20_ArenaWords x.1 x.2.1, fun _ y => (y, ()), fun _ y => ((), ((), ()))⟩
noncomputable def c21 (N : Nat) : Cx := mkC tyL [(44, g44)] [(48, i48)] mtL N
def g21 : Sig := ⟨(.cons (.ptr (.cons (.cons (.ptr (.cons (.own (.int .u64)) .nl)) .nl) .nl)) .nl), (.cons (.nptr (.cons (.own (.int .u64)) .nl)) .nl), ((Option ((List Int) × Unit)) × ((((List Int) × Unit) × Unit) × Unit)), fun x => m_arena_Arena_Mem x.1, fun _ y => (y.1, ()), fun _ y => (y.2, ())⟩
def an21 : Nat → Ann := mkA []
theorem ev21 : ∀ x : g21.ps.den, evalFn (c21 FUEL) an21 Try.f21 (codeOf Try.f21) g21 x (fun p => (p.1.1, p.2.1)) = g21.m x := by
  intro x
  obtain ⟨x0, xu⟩ := x
  show _ = _
  kernel_rfl
theorem meets21 : Meets Try.prog 21 g21 :=
  meets_of (C := c21 FUEL) (ann := an21) (mkC_ok (gs := [(44, g44)]) (is := [(48, i48)]) (mt := mtL) tysOK elemOK ⟨meets44, trivial⟩ ⟨inl48, trivial⟩ mtOK FUEL) mixed Try.func21 (by kernel_rfl) (by kernel_rfl) (by kernel_rfl) (of_decide_eq_true (by kernel_rfl)) (fun p => (p.1.1, p.2.1)) (fun _ _ => ⟨rfl, rfl⟩) ev21
noncomputable def c26 (N : Nat) : Cx := mkC tyL [(61, g61), (62, g62)] [(48, i48)] mtL N
def g26 : Sig := ⟨(.cons (.ptr (.cons (.cons (.ptr (.cons (.own (.int .u64)) .nl)) .nl) .nl)) .nl), (.cons (.own (.int .i64)) .nl), ((List Int) × ((((List Int) × Unit) × Unit) × Unit)), fun x => m_arena_Arena_Used x.1, fun _ y => (y.1, ()), fun _ y => (y.2, ())⟩
def an26 : Nat → Ann := mkA [(5, ⟨[0, 4], [(3, (.own (.int .i64)), 300003)], [], false, [(100000, [.fld 0, .fld 0], (.ptr (.cons (.own (.int .u64)) .nl)), 2001600000)]⟩)]
noncomputable def k26 (N : Nat) : Ex → St → Option ((List Int) × ((((List Int) × Unit) × Unit) × Unit)) := finK (c26 N) Try.f26 g26 (.cons (.ref 100000 []) .nl) (fun p => (p.1.1, p.2.1))
def a26 : Nat → Ann := annP [100000] an26
def h26_0 (u0_0 : Int) (u0_1 : (List Int)) (u0_2 : (List Int)) : St := ⟨21, [(3, .full 300003), (0, (.ref 100000 [])), (4, (.int .i64 u0_0))], [(100000, (.cons (.cons (.ref 2001600000 []) .nl) .nl)), (300003, (.bk (.int .i64) u0_1)), (2001600000, (.cons (.full 2001600001) .nl)), (2001600001, (.bk (.int .u64) u0_2))]⟩
theorem t26_0 : ∀ (N : Nat) (n : Nat) (u0_0 : Int) (u0_1 : (List Int)) (u0_2 : (List Int)), loopAt (c26 N) a26 [1, 1, 1, 0, 1, 0] [] (codeOf Try.f26) (k26 N) n (h26_0 u0_0 u0_1 u0_2) = m_arena_Arena_Used_l0 N n u0_0 u0_1 u0_2 := by
  intro N n
  induction n with
  | zero => intro u0_0 u0_1 u0_2; kernel_rfl
  | succ n ih =>
    intro u0_0 u0_1 u0_2
    have e : loopAt (c26 N) a26 [1, 1, 1, 0, 1, 0] [] (codeOf Try.f26) (k26 N) (n + 1) (h26_0 u0_0 u0_1 u0_2) = m_arena_Arena_Used_l0_b (fun w0 w1 w2 => loopAt (c26 N) a26 [1, 1, 1, 0, 1, 0] [] (codeOf Try.f26) (k26 N) n (h26_0 w0 w1 w2)) u0_0 u0_1 u0_2 := by kernel_rfl
    refine e.trans ?_
    have es : (fun w0 w1 w2 => loopAt (c26 N) a26 [1, 1, 1, 0, 1, 0] [] (codeOf Try.f26) (k26 N) n (h26_0 w0 w1 w2)) = m_arena_Arena_Used_l0 N n := by
      funext w0 w1 w2; exact ih w0 w1 w2
    rw [es]
    rw [m_arena_Arena_Used_l0]
theorem ew26 : ∀ (N : Nat) (x : g26.ps.den), evalFn (c26 N) an26 Try.f26 (codeOf Try.f26) g26 x (fun p => (p.1.1, p.2.1)) = m_arena_Arena_Used_a (m_arena_Arena_Used_l0 N N) x.1 := by
  intro N
  intro x
  obtain ⟨x0, xu⟩ := x
  have e : evalFn (c26 N) an26 Try.f26 (codeOf Try.f26) g26 (x0, xu) (fun p => (p.1.1, p.2.1)) = m_arena_Arena_Used_a (fun w0 w1 w2 => loopAt (c26 N) a26 [1, 1, 1, 0, 1, 0] [] (codeOf Try.f26) (k26 N) N (h26_0 w0 w1 w2)) x0 := by kernel_rfl
  refine e.trans ?_
  have e0 : (fun w0 w1 w2 => loopAt (c26 N) a26 [1, 1, 1, 0, 1, 0] [] (codeOf Try.f26) (k26 N) N (h26_0 w0 w1 w2)) = m_arena_Arena_Used_l0 N N := by
    funext w0 w1 w2; exact t26_0 N N w0 w1 w2
  rw [e0]
theorem ev26 : ∀ x : g26.ps.den, evalFn (c26 FUEL) an26 Try.f26 (codeOf Try.f26) g26 x (fun p => (p.1.1, p.2.1)) = g26.m x := fun x => ew26 FUEL x
theorem meets26 : Meets Try.prog 26 g26 :=
  meets_of (C := c26 FUEL) (ann := an26) (mkC_ok (gs := [(61, g61), (62, g62)]) (is := [(48, i48)]) (mt := mtL) tysOK elemOK ⟨meets61, meets62, trivial⟩ ⟨inl48, trivial⟩ mtOK FUEL) mixed Try.func26 (by kernel_rfl) (by kernel_rfl) (by kernel_rfl) (of_decide_eq_true (by kernel_rfl)) (fun p => (p.1.1, p.2.1)) (fun _ _ => ⟨rfl, rfl⟩) ev26
def c72 (N : Nat) : Cx := mkC tyL [] [] mtL N
def g72 : Sig := ⟨(.cons (.ptr (.cons (.own (.int .u64)) .nl)) .nl), (.cons (.pure (.int .i64)) .nl), (Int × ((List Int) × Unit)), fun x => m_ticketlineref20_Arena_Pages x.1, fun _ y => (y.1, ()), fun _ y => (y.2, ())⟩
def an72 : Nat → Ann := mkA []
theorem ev72 : ∀ x : g72.ps.den, evalFn (c72 FUEL) an72 Try.f72 (codeOf Try.f72) g72 x (fun p => (p.1.1, p.2.1)) = g72.m x := by
  intro x
  obtain ⟨x0, xu⟩ := x
  show _ = _
  kernel_rfl
theorem meets72 : Meets Try.prog 72 g72 :=
  meets_of (C := c72 FUEL) (ann := an72) (mkC_ok (gs := []) (is := []) (mt := mtL) tysOK elemOK trivial trivial mtOK FUEL) mixed Try.func72 (by kernel_rfl) (by kernel_rfl) (by kernel_rfl) (of_decide_eq_true (by kernel_rfl)) (fun p => (p.1.1, p.2.1)) (fun _ _ => ⟨rfl, rfl⟩) ev72
def c73 (N : Nat) : Cx := mkC tyL [] [] mtL N
def g73 : Sig := ⟨(.cons (.pure (.int .i64)) (.cons (.pure (.int .i64)) .nl)), (.cons (.pure (.int .i64)) .nl), Int, fun x => m_ticketlineref20_at x.1 x.2.1, fun _ y => (y, ()), fun _ y => ((), ((), ()))⟩
def an73 : Nat → Ann := mkA []
theorem ev73 : ∀ x : g73.ps.den, evalFn (c73 FUEL) an73 Try.f73 (codeOf Try.f73) g73 x (fun p => p.1.1) = g73.m x := by
  intro x
  obtain ⟨x0, x1, xu⟩ := x
  show _ = _
  kernel_rfl
theorem meets73 : Meets Try.prog 73 g73 :=
  meets_of (C := c73 FUEL) (ann := an73) (mkC_ok (gs := []) (is := []) (mt := mtL) tysOK elemOK trivial trivial mtOK FUEL) mixed Try.func73 (by kernel_rfl) (by kernel_rfl) (by kernel_rfl) (of_decide_eq_true (by kernel_rfl)) (fun p => p.1.1) (fun _ _ => ⟨rfl, rfl⟩) ev73
def c68 (N : Nat) : Cx := mkC tyL [(72, g72), (73, g73)] [] mtL N
def g68 : Sig := ⟨(.cons (.ptr (.cons (.own (.int .u64)) .nl)) (.cons (.pure (.int .i64)) .nl)), (.cons (.pure (.arr 128 (.int .u64))) (.cons (.pure (.int .i64)) .nl)), ((List Int) × Int × ((List Int) × Unit)), fun x => m_ticketlineref20_Arena_Read x.1 x.2.1, fun _ y => (y.1, (y.2.1, ())), fun _ y => (y.2.2, ((), ()))⟩
def an68 : Nat → Ann := mkA [(5, ⟨[0, 1, 4, 6, 7], [], [4, 6, 200416], false, []⟩)]
noncomputable def k68 (N : Nat) : Ex → St → Option ((List Int) × Int × ((List Int) × Unit)) := finK (c68 N) Try.f68 g68 (.cons (.ref 100000 []) (.cons .top .nl)) (fun p => (p.1.1, p.1.2.1, p.2.1))
def a68 : Nat → Ann := annP [100000] an68
def h68_0 (u0_0 : Int) (u0_1 : Int) (u0_2 : (List Int)) (u0_3 : (List Int)) (u0_4 : (List Int)) : St := ⟨33, [(0, (.ref 100000 [])), (1, (.int .i64 u0_0)), (4, (.ref 4 [])), (6, (.ref 6 [])), (7, (.int .i64 u0_1))], [(100000, (.cons (.full 200416) .nl)), (4, (.arr (.int .u64) 128 u0_2)), (6, (.arr (.int .u64) 128 u0_3)), (200416, (.bk (.int .u64) u0_4))]⟩
theorem t68_0 : ∀ (N : Nat) (n : Nat) (u0_0 : Int) (u0_1 : Int) (u0_2 : (List Int)) (u0_3 : (List Int)) (u0_4 : (List Int)), loopAt (c68 N) a68 [1, 1, 1, 0, 1, 0] [] (codeOf Try.f68) (k68 N) n (h68_0 u0_0 u0_1 u0_2 u0_3 u0_4) = m_ticketlineref20_Arena_Read_l0 N n u0_0 u0_1 u0_2 u0_3 u0_4 := by
  intro N n
  induction n with
  | zero => intro u0_0 u0_1 u0_2 u0_3 u0_4; kernel_rfl
  | succ n ih =>
    intro u0_0 u0_1 u0_2 u0_3 u0_4
    have e : loopAt (c68 N) a68 [1, 1, 1, 0, 1, 0] [] (codeOf Try.f68) (k68 N) (n + 1) (h68_0 u0_0 u0_1 u0_2 u0_3 u0_4) = m_ticketlineref20_Arena_Read_l0_b (fun w0 w1 w2 w3 w4 => loopAt (c68 N) a68 [1, 1, 1, 0, 1, 0] [] (codeOf Try.f68) (k68 N) n (h68_0 w0 w1 w2 w3 w4)) u0_0 u0_1 u0_2 u0_3 u0_4 := by kernel_rfl
    refine e.trans ?_
    have es : (fun w0 w1 w2 w3 w4 => loopAt (c68 N) a68 [1, 1, 1, 0, 1, 0] [] (codeOf Try.f68) (k68 N) n (h68_0 w0 w1 w2 w3 w4)) = m_ticketlineref20_Arena_Read_l0 N n := by
      funext w0 w1 w2 w3 w4; exact ih w0 w1 w2 w3 w4
    rw [es]
    rw [m_ticketlineref20_Arena_Read_l0]
theorem ew68 : ∀ (N : Nat) (x : g68.ps.den), evalFn (c68 N) an68 Try.f68 (codeOf Try.f68) g68 x (fun p => (p.1.1, p.1.2.1, p.2.1)) = m_ticketlineref20_Arena_Read_a (m_ticketlineref20_Arena_Read_l0 N N) x.1 x.2.1 := by
  intro N
  intro x
  obtain ⟨x0, x1, xu⟩ := x
  have e : evalFn (c68 N) an68 Try.f68 (codeOf Try.f68) g68 (x0, x1, xu) (fun p => (p.1.1, p.1.2.1, p.2.1)) = m_ticketlineref20_Arena_Read_a (fun w0 w1 w2 w3 w4 => loopAt (c68 N) a68 [1, 1, 1, 0, 1, 0] [] (codeOf Try.f68) (k68 N) N (h68_0 w0 w1 w2 w3 w4)) x0 x1 := by kernel_rfl
  refine e.trans ?_
  have e0 : (fun w0 w1 w2 w3 w4 => loopAt (c68 N) a68 [1, 1, 1, 0, 1, 0] [] (codeOf Try.f68) (k68 N) N (h68_0 w0 w1 w2 w3 w4)) = m_ticketlineref20_Arena_Read_l0 N N := by
    funext w0 w1 w2 w3 w4; exact t68_0 N N w0 w1 w2 w3 w4
  rw [e0]
theorem ev68 : ∀ x : g68.ps.den, evalFn (c68 FUEL) an68 Try.f68 (codeOf Try.f68) g68 x (fun p => (p.1.1, p.1.2.1, p.2.1)) = g68.m x := fun x => ew68 FUEL x
theorem meets68 : Meets Try.prog 68 g68 :=
  meets_of (C := c68 FUEL) (ann := an68) (mkC_ok (gs := [(72, g72), (73, g73)]) (is := []) (mt := mtL) tysOK elemOK ⟨meets72, meets73, trivial⟩ trivial mtOK FUEL) mixed Try.func68 (by kernel_rfl) (by kernel_rfl) (by kernel_rfl) (of_decide_eq_true (by kernel_rfl)) (fun p => (p.1.1, p.1.2.1, p.2.1)) (fun _ _ => ⟨rfl, rfl⟩) ev68
def c71 (N : Nat) : Cx := mkC tyL [(72, g72), (73, g73)] [] mtL N
def g71 : Sig := ⟨(.cons (.ptr (.cons (.own (.int .u64)) .nl)) (.cons (.pure (.int .u64)) (.cons (.pure (.int .u64)) .nl))), (.cons (.pure (.int .i64)) .nl), (Int × ((List Int) × Unit)), fun x => m_ticketlineref20_Arena_Of x.1 x.2.1 x.2.2.1, fun _ y => (y.1, ()), fun _ y => (y.2, ((), ((), ())))⟩
def an71 : Nat → Ann := mkA [(3, ⟨[0, 1, 2, 7, 8], [], [], false, [(100000, [.fld 0], (.own (.int .u64)), 2001600000)]⟩)]
noncomputable def k71 (N : Nat) : Ex → St → Option (Int × ((List Int) × Unit)) := finK (c71 N) Try.f71 g71 (.cons (.ref 100000 []) (.cons .top (.cons .top .nl))) (fun p => (p.1.1, p.2.1))
def a71 : Nat → Ann := annP [100000] an71
def h71_0 (u0_0 : Int) (u0_1 : Int) (u0_2 : Int) (u0_3 : Int) (u0_4 : (List Int)) : St := ⟨35, [(0, (.ref 100000 [])), (1, (.int .u64 u0_0)), (2, (.int .u64 u0_1)), (7, (.int .i64 u0_2)), (8, (.int .i64 u0_3))], [(100000, (.cons (.full 2001600000) .nl)), (2001600000, (.bk (.int .u64) u0_4))]⟩
theorem t71_0 : ∀ (N : Nat) (n : Nat) (u0_0 : Int) (u0_1 : Int) (u0_2 : Int) (u0_3 : Int) (u0_4 : (List Int)), loopAt (c71 N) a71 [1, 1, 0, 1, 0] [] (codeOf Try.f71) (k71 N) n (h71_0 u0_0 u0_1 u0_2 u0_3 u0_4) = m_ticketlineref20_Arena_Of_l0 N n u0_0 u0_1 u0_2 u0_3 u0_4 := by
  intro N n
  induction n with
  | zero => intro u0_0 u0_1 u0_2 u0_3 u0_4; kernel_rfl
  | succ n ih =>
    intro u0_0 u0_1 u0_2 u0_3 u0_4
    have e : loopAt (c71 N) a71 [1, 1, 0, 1, 0] [] (codeOf Try.f71) (k71 N) (n + 1) (h71_0 u0_0 u0_1 u0_2 u0_3 u0_4) = m_ticketlineref20_Arena_Of_l0_b (fun w0 w1 w2 w3 w4 => loopAt (c71 N) a71 [1, 1, 0, 1, 0] [] (codeOf Try.f71) (k71 N) n (h71_0 w0 w1 w2 w3 w4)) u0_0 u0_1 u0_2 u0_3 u0_4 := by kernel_rfl
    refine e.trans ?_
    have es : (fun w0 w1 w2 w3 w4 => loopAt (c71 N) a71 [1, 1, 0, 1, 0] [] (codeOf Try.f71) (k71 N) n (h71_0 w0 w1 w2 w3 w4)) = m_ticketlineref20_Arena_Of_l0 N n := by
      funext w0 w1 w2 w3 w4; exact ih w0 w1 w2 w3 w4
    rw [es]
    rw [m_ticketlineref20_Arena_Of_l0]
theorem ew71 : ∀ (N : Nat) (x : g71.ps.den), evalFn (c71 N) an71 Try.f71 (codeOf Try.f71) g71 x (fun p => (p.1.1, p.2.1)) = m_ticketlineref20_Arena_Of_a (m_ticketlineref20_Arena_Of_l0 N N) x.1 x.2.1 x.2.2.1 := by
  intro N
  intro x
  obtain ⟨x0, x1, x2, xu⟩ := x
  have e : evalFn (c71 N) an71 Try.f71 (codeOf Try.f71) g71 (x0, x1, x2, xu) (fun p => (p.1.1, p.2.1)) = m_ticketlineref20_Arena_Of_a (fun w0 w1 w2 w3 w4 => loopAt (c71 N) a71 [1, 1, 0, 1, 0] [] (codeOf Try.f71) (k71 N) N (h71_0 w0 w1 w2 w3 w4)) x0 x1 x2 := by kernel_rfl
  refine e.trans ?_
  have e0 : (fun w0 w1 w2 w3 w4 => loopAt (c71 N) a71 [1, 1, 0, 1, 0] [] (codeOf Try.f71) (k71 N) N (h71_0 w0 w1 w2 w3 w4)) = m_ticketlineref20_Arena_Of_l0 N N := by
    funext w0 w1 w2 w3 w4; exact t71_0 N N w0 w1 w2 w3 w4
  rw [e0]
theorem ev71 : ∀ x : g71.ps.den, evalFn (c71 FUEL) an71 Try.f71 (codeOf Try.f71) g71 x (fun p => (p.1.1, p.2.1)) = g71.m x := fun x => ew71 FUEL x
theorem meets71 : Meets Try.prog 71 g71 :=
  meets_of (C := c71 FUEL) (ann := an71) (mkC_ok (gs := [(72, g72), (73, g73)]) (is := []) (mt := mtL) tysOK elemOK ⟨meets72, meets73, trivial⟩ trivial mtOK FUEL) mixed Try.func71 (by kernel_rfl) (by kernel_rfl) (by kernel_rfl) (of_decide_eq_true (by kernel_rfl)) (fun p => (p.1.1, p.2.1)) (fun _ _ => ⟨rfl, rfl⟩) ev71
noncomputable def c31 (N : Nat) : Cx := mkC tyL [(21, g21), (22, g22), (26, g26), (29, g29), (37, g37), (40, g40), (56, g56), (68, g68), (71, g71), (72, g72)] [(42, i42)] mtL N
def g31 : Sig := ⟨(.cons (.ptr (.cons (.cons (.ptr (.cons (.own (.int .u64)) .nl)) .nl) .nl)) (.cons (.ptr (.cons (.own (.int .u64)) .nl)) .nl)), (.cons (.pure .bool) .nl), (Bool × ((((List Int) × Unit) × Unit) × Unit) × ((List Int) × Unit)), fun x => m_ticketlinelaw20_alike x.1 x.2.1, fun _ y => (y.1, ()), fun _ y => (y.2.1, (y.2.2, ()))⟩
def an31 : Nat → Ann := mkA [(7, ⟨[0, 1, 5, 6], [], [201346, 201344, 200800, 201345], false, [(201346, [.fld 0], (.own (.int .u64)), 2003221536)]⟩), (16, ⟨[0, 1, 9, 10, 11], [], [202754], false, [(100000, [.fld 0, .fld 0], (.ptr (.cons (.own (.int .u64)) .nl)), 2001600000), (100003, [.fld 0], (.own (.int .u64)), 2001600048)]⟩)]
noncomputable def k31 (N : Nat) : Ex → St → Option (Bool × ((((List Int) × Unit) × Unit) × Unit) × ((List Int) × Unit)) := finK (c31 N) Try.f31 g31 (.cons (.ref 100000 []) (.cons (.ref 100003 []) .nl)) (fun p => (p.1.1, p.2.1, p.2.2.1))
def a31 : Nat → Ann := annP [100000, 100003] an31
def h31_1 (u1_0 : Int) (u1_1 : Int) (u1_2 : (List Int)) (u1_3 : (List Int)) (u1_4 : (List Int)) : St := ⟨130, [(0, (.ref 100000 [])), (1, (.ref 100003 [])), (9, (.full 202754)), (10, (.int .i64 u1_0)), (11, (.int .i64 u1_1))], [(100000, (.cons (.cons (.ref 2001600000 []) .nl) .nl)), (100003, (.cons (.full 2001600048) .nl)), (202754, (.bk (.int .i64) u1_2)), (2001600000, (.cons (.full 2001600001) .nl)), (2001600001, (.bk (.int .u64) u1_3)), (2001600048, (.bk (.int .u64) u1_4))]⟩
def h31_0 (u0_0 : Int) (u0_1 : (List Int)) (u0_2 : (List Int)) (u0_3 : (List Int)) : St := ⟨130, [(0, (.ref 100000 [])), (1, (.ref 100003 [])), (5, (.ref 201346 [])), (6, (.int .i64 u0_0))], [(100000, (.cons (.cons (.ref 201344 []) .nl) .nl)), (100003, (.cons (.full 200800) .nl)), (201346, (.cons (.full 2003221536) .nl)), (201344, (.cons (.full 201345) .nl)), (200800, (.bk (.int .u64) u0_1)), (201345, (.bk (.int .u64) u0_2)), (2003221536, (.bk (.int .u64) u0_3))]⟩
theorem t31_1 : ∀ (N : Nat) (n : Nat) (u1_0 : Int) (u1_1 : Int) (u1_2 : (List Int)) (u1_3 : (List Int)) (u1_4 : (List Int)), loopAt (c31 N) a31 [1, 1, 1, 1, 1, 1, 1, 1, 0, 1, 0] [] (codeOf Try.f31) (k31 N) n (h31_1 u1_0 u1_1 u1_2 u1_3 u1_4) = m_ticketlinelaw20_alike_l1 N n u1_0 u1_1 u1_2 u1_3 u1_4 := by
  intro N n
  induction n with
  | zero => intro u1_0 u1_1 u1_2 u1_3 u1_4; kernel_rfl
  | succ n ih =>
    intro u1_0 u1_1 u1_2 u1_3 u1_4
    have e : loopAt (c31 N) a31 [1, 1, 1, 1, 1, 1, 1, 1, 0, 1, 0] [] (codeOf Try.f31) (k31 N) (n + 1) (h31_1 u1_0 u1_1 u1_2 u1_3 u1_4) = m_ticketlinelaw20_alike_l1_b (fun w0 w1 w2 w3 w4 => loopAt (c31 N) a31 [1, 1, 1, 1, 1, 1, 1, 1, 0, 1, 0] [] (codeOf Try.f31) (k31 N) n (h31_1 w0 w1 w2 w3 w4)) u1_0 u1_1 u1_2 u1_3 u1_4 := by kernel_rfl
    refine e.trans ?_
    have es : (fun w0 w1 w2 w3 w4 => loopAt (c31 N) a31 [1, 1, 1, 1, 1, 1, 1, 1, 0, 1, 0] [] (codeOf Try.f31) (k31 N) n (h31_1 w0 w1 w2 w3 w4)) = m_ticketlinelaw20_alike_l1 N n := by
      funext w0 w1 w2 w3 w4; exact ih w0 w1 w2 w3 w4
    rw [es]
    rw [m_ticketlinelaw20_alike_l1]
theorem t31_0 : ∀ (N : Nat) (n : Nat) (u0_0 : Int) (u0_1 : (List Int)) (u0_2 : (List Int)) (u0_3 : (List Int)), loopAt (c31 N) a31 [1, 1, 1, 1, 0, 1, 0] [] (codeOf Try.f31) (k31 N) n (h31_0 u0_0 u0_1 u0_2 u0_3) = m_ticketlinelaw20_alike_l0 N n u0_0 u0_1 u0_2 u0_3 := by
  intro N n
  induction n with
  | zero => intro u0_0 u0_1 u0_2 u0_3; kernel_rfl
  | succ n ih =>
    intro u0_0 u0_1 u0_2 u0_3
    have e : loopAt (c31 N) a31 [1, 1, 1, 1, 0, 1, 0] [] (codeOf Try.f31) (k31 N) (n + 1) (h31_0 u0_0 u0_1 u0_2 u0_3) = m_ticketlinelaw20_alike_l0_b (fun w0 w1 w2 w3 => loopAt (c31 N) a31 [1, 1, 1, 1, 0, 1, 0] [] (codeOf Try.f31) (k31 N) n (h31_0 w0 w1 w2 w3)) (fun w0 w1 w2 w3 w4 => loopAt (c31 N) a31 [1, 1, 1, 1, 1, 1, 1, 1, 0, 1, 0] [] (codeOf Try.f31) (k31 N) N (h31_1 w0 w1 w2 w3 w4)) u0_0 u0_1 u0_2 u0_3 := by kernel_rfl
    refine e.trans ?_
    have e1 : (fun w0 w1 w2 w3 w4 => loopAt (c31 N) a31 [1, 1, 1, 1, 1, 1, 1, 1, 0, 1, 0] [] (codeOf Try.f31) (k31 N) N (h31_1 w0 w1 w2 w3 w4)) = m_ticketlinelaw20_alike_l1 N N := by
      funext w0 w1 w2 w3 w4; exact t31_1 N N w0 w1 w2 w3 w4
    rw [e1]
    have es : (fun w0 w1 w2 w3 => loopAt (c31 N) a31 [1, 1, 1, 1, 0, 1, 0] [] (codeOf Try.f31) (k31 N) n (h31_0 w0 w1 w2 w3)) = m_ticketlinelaw20_alike_l0 N n := by
      funext w0 w1 w2 w3; exact ih w0 w1 w2 w3
    rw [es]
    rw [m_ticketlinelaw20_alike_l0]
theorem ew31 : ∀ (N : Nat) (x : g31.ps.den), evalFn (c31 N) an31 Try.f31 (codeOf Try.f31) g31 x (fun p => (p.1.1, p.2.1, p.2.2.1)) = m_ticketlinelaw20_alike_a (m_ticketlinelaw20_alike_l0 N N) x.1 x.2.1 := by
  intro N
  intro x
  obtain ⟨x0, x1, xu⟩ := x
  have e : evalFn (c31 N) an31 Try.f31 (codeOf Try.f31) g31 (x0, x1, xu) (fun p => (p.1.1, p.2.1, p.2.2.1)) = m_ticketlinelaw20_alike_a (fun w0 w1 w2 w3 => loopAt (c31 N) a31 [1, 1, 1, 1, 0, 1, 0] [] (codeOf Try.f31) (k31 N) N (h31_0 w0 w1 w2 w3)) x0 x1 := by kernel_rfl
  refine e.trans ?_
  have e0 : (fun w0 w1 w2 w3 => loopAt (c31 N) a31 [1, 1, 1, 1, 0, 1, 0] [] (codeOf Try.f31) (k31 N) N (h31_0 w0 w1 w2 w3)) = m_ticketlinelaw20_alike_l0 N N := by
    funext w0 w1 w2 w3; exact t31_0 N N w0 w1 w2 w3
  rw [e0]
theorem ev31 : ∀ x : g31.ps.den, evalFn (c31 FUEL) an31 Try.f31 (codeOf Try.f31) g31 x (fun p => (p.1.1, p.2.1, p.2.2.1)) = g31.m x := fun x => ew31 FUEL x
theorem meets31 : Meets Try.prog 31 g31 :=
  meets_of (C := c31 FUEL) (ann := an31) (mkC_ok (gs := [(21, g21), (22, g22), (26, g26), (29, g29), (37, g37), (40, g40), (56, g56), (68, g68), (71, g71), (72, g72)]) (is := [(42, i42)]) (mt := mtL) tysOK elemOK ⟨meets21, meets22, meets26, meets29, meets37, meets40, meets56, meets68, meets71, meets72, trivial⟩ ⟨inl42, trivial⟩ mtOK FUEL) mixed Try.func31 (by kernel_rfl) (by kernel_rfl) (by kernel_rfl) (of_decide_eq_true (by kernel_rfl)) (fun p => (p.1.1, p.2.1, p.2.2.1)) (fun _ _ => ⟨rfl, rfl⟩) ev31
def c33 (N : Nat) : Cx := mkC tyL [(73, g73)] [] mtL N
def g33 : Sig := ⟨(.cons (.pure (.sl (.int .u64))) (.cons (.pure (.int .i64)) .nl)), (.cons (.nptr (.cons (.own (.int .u64)) .nl)) .nl), (Option ((List Int) × Unit)), fun x => m_ticketlineref20_Format x.1 x.2.1, fun _ y => (y, ()), fun _ y => ((), ((), ()))⟩
def an33 : Nat → Ann := mkA [(3, ⟨[1, 5, 6], [], [11, 9], false, []⟩), (8, ⟨[1, 5, 7], [], [11, 9], false, []⟩)]
noncomputable def k33 (N : Nat) : Ex → St → Option (Option ((List Int) × Unit)) := finK (c33 N) Try.f33 g33 (.cons .top (.cons .top .nl)) (fun p => p.1.1)
def a33 : Nat → Ann := annP [] an33
def h33_1 (u1_0 : Int) (u1_1 : Int) (u1_2 : (List Int)) : St := ⟨58, [(1, (.int .i64 u1_0)), (5, (.ref 11 [])), (7, (.int .i64 u1_1))], [(11, (.cons (.full 9) .nl)), (9, (.bk (.int .u64) u1_2))]⟩
def h33_0 (u0_0 : Int) (u0_1 : Int) (u0_2 : (List Int)) : St := ⟨58, [(1, (.int .i64 u0_0)), (5, (.ref 11 [])), (6, (.int .i64 u0_1))], [(11, (.cons (.full 9) .nl)), (9, (.bk (.int .u64) u0_2))]⟩
theorem t33_1 : ∀ (N : Nat) (n : Nat) (u1_0 : Int) (u1_1 : Int) (u1_2 : (List Int)), loopAt (c33 N) a33 [1, 1, 1, 1, 0, 1, 0] [] (codeOf Try.f33) (k33 N) n (h33_1 u1_0 u1_1 u1_2) = m_ticketlineref20_Format_l1 N n u1_0 u1_1 u1_2 := by
  intro N n
  induction n with
  | zero => intro u1_0 u1_1 u1_2; kernel_rfl
  | succ n ih =>
    intro u1_0 u1_1 u1_2
    have e : loopAt (c33 N) a33 [1, 1, 1, 1, 0, 1, 0] [] (codeOf Try.f33) (k33 N) (n + 1) (h33_1 u1_0 u1_1 u1_2) = m_ticketlineref20_Format_l1_b (fun w0 w1 w2 => loopAt (c33 N) a33 [1, 1, 1, 1, 0, 1, 0] [] (codeOf Try.f33) (k33 N) n (h33_1 w0 w1 w2)) u1_0 u1_1 u1_2 := by kernel_rfl
    refine e.trans ?_
    have es : (fun w0 w1 w2 => loopAt (c33 N) a33 [1, 1, 1, 1, 0, 1, 0] [] (codeOf Try.f33) (k33 N) n (h33_1 w0 w1 w2)) = m_ticketlineref20_Format_l1 N n := by
      funext w0 w1 w2; exact ih w0 w1 w2
    rw [es]
    rw [m_ticketlineref20_Format_l1]
theorem t33_0 : ∀ (N : Nat) (n : Nat) (u0_0 : Int) (u0_1 : Int) (u0_2 : (List Int)), loopAt (c33 N) a33 [1, 1, 0, 1, 0] [] (codeOf Try.f33) (k33 N) n (h33_0 u0_0 u0_1 u0_2) = m_ticketlineref20_Format_l0 N n u0_0 u0_1 u0_2 := by
  intro N n
  induction n with
  | zero => intro u0_0 u0_1 u0_2; kernel_rfl
  | succ n ih =>
    intro u0_0 u0_1 u0_2
    have e : loopAt (c33 N) a33 [1, 1, 0, 1, 0] [] (codeOf Try.f33) (k33 N) (n + 1) (h33_0 u0_0 u0_1 u0_2) = m_ticketlineref20_Format_l0_b (fun w0 w1 w2 => loopAt (c33 N) a33 [1, 1, 0, 1, 0] [] (codeOf Try.f33) (k33 N) n (h33_0 w0 w1 w2)) (fun w0 w1 w2 => loopAt (c33 N) a33 [1, 1, 1, 1, 0, 1, 0] [] (codeOf Try.f33) (k33 N) N (h33_1 w0 w1 w2)) u0_0 u0_1 u0_2 := by kernel_rfl
    refine e.trans ?_
    have e1 : (fun w0 w1 w2 => loopAt (c33 N) a33 [1, 1, 1, 1, 0, 1, 0] [] (codeOf Try.f33) (k33 N) N (h33_1 w0 w1 w2)) = m_ticketlineref20_Format_l1 N N := by
      funext w0 w1 w2; exact t33_1 N N w0 w1 w2
    rw [e1]
    have es : (fun w0 w1 w2 => loopAt (c33 N) a33 [1, 1, 0, 1, 0] [] (codeOf Try.f33) (k33 N) n (h33_0 w0 w1 w2)) = m_ticketlineref20_Format_l0 N n := by
      funext w0 w1 w2; exact ih w0 w1 w2
    rw [es]
    rw [m_ticketlineref20_Format_l0]
theorem ew33 : ∀ (N : Nat) (x : g33.ps.den), evalFn (c33 N) an33 Try.f33 (codeOf Try.f33) g33 x (fun p => p.1.1) = m_ticketlineref20_Format_a (m_ticketlineref20_Format_l0 N N) x.1 x.2.1 := by
  intro N
  intro x
  obtain ⟨x0, x1, xu⟩ := x
  have e : evalFn (c33 N) an33 Try.f33 (codeOf Try.f33) g33 (x0, x1, xu) (fun p => p.1.1) = m_ticketlineref20_Format_a (fun w0 w1 w2 => loopAt (c33 N) a33 [1, 1, 0, 1, 0] [] (codeOf Try.f33) (k33 N) N (h33_0 w0 w1 w2)) x0 x1 := by kernel_rfl
  refine e.trans ?_
  have e0 : (fun w0 w1 w2 => loopAt (c33 N) a33 [1, 1, 0, 1, 0] [] (codeOf Try.f33) (k33 N) N (h33_0 w0 w1 w2)) = m_ticketlineref20_Format_l0 N N := by
    funext w0 w1 w2; exact t33_0 N N w0 w1 w2
  rw [e0]
theorem ev33 : ∀ x : g33.ps.den, evalFn (c33 FUEL) an33 Try.f33 (codeOf Try.f33) g33 x (fun p => p.1.1) = g33.m x := fun x => ew33 FUEL x
theorem meets33 : Meets Try.prog 33 g33 :=
  meets_of (C := c33 FUEL) (ann := an33) (mkC_ok (gs := [(73, g73)]) (is := []) (mt := mtL) tysOK elemOK ⟨meets73, trivial⟩ trivial mtOK FUEL) mixed Try.func33 (by kernel_rfl) (by kernel_rfl) (by kernel_rfl) (of_decide_eq_true (by kernel_rfl)) (fun p => p.1.1) (fun _ _ => ⟨rfl, rfl⟩) ev33
def c7 (N : Nat) : Cx := mkC tyL [(10, g10), (11, g11), (12, g12), (23, g23), (31, g31), (33, g33)] [] mtL N
def g7 : Sig := ⟨(.cons (.pure (.int .i64)) (.cons (.pure (.int .i64)) .nl)), (.cons (.pure .bool) .nl), Bool, fun x => m_ticketlinelaw20_ArenaFormats x.1 x.2.1, fun _ y => (y, ()), fun _ y => ((), ((), ()))⟩
def c5 (N : Nat) : Cx := mkC tyL [(10, g10), (11, g11), (12, g12), (15, g15), (22, g22), (23, g23), (24, g24), (25, g25), (26, g26)] [] mtL N
def g5 : Sig := ⟨(.cons (.pure (.int .i64)) (.cons (.pure (.int .u16)) .nl)), (.cons (.pure .bool) .nl), Bool, fun x => m_ticketlinelaw20_ArenaMany x.1 x.2.1, fun _ y => (y, ()), fun _ y => ((), ((), ()))⟩
def an5 : Nat → Ann := mkA [(11, ⟨[0, 1, 6, 8, 9], [], [200865, 8], false, [(200865, [.fld 0, .fld 0], (.ptr (.cons (.own (.int .u64)) .nl)), 2003213840)]⟩), (19, ⟨[0, 1, 6, 10, 11], [], [200865], false, [(200865, [.fld 0, .fld 0], (.ptr (.cons (.own (.int .u64)) .nl)), 2003213840)]⟩)]
noncomputable def k5 (N : Nat) : Ex → St → Option Bool := finK (c5 N) Try.f5 g5 (.cons .top (.cons .top .nl)) (fun p => p.1.1)
def a5 : Nat → Ann := annP [] an5
def c46 (N : Nat) : Cx := mkC tyL [(79, g79)] [] mtL N
def g46 : Sig := ⟨(.cons (.pure (.pair .str (.pair .str .nl))) .nl), (.cons (.pure (.int .i64)) .nl), Int, fun x => m_ticketlineref14_Cost x.1, fun _ y => (y, ()), fun _ y => ((), ())⟩
def an46 : Nat → Ann := mkA []
theorem ev46 : ∀ x : g46.ps.den, evalFn (c46 FUEL) an46 Try.f46 (codeOf Try.f46) g46 x (fun p => p.1.1) = g46.m x := by
  intro x
  obtain ⟨x0, xu⟩ := x
  show _ = _
  kernel_rfl
theorem meets46 : Meets Try.prog 46 g46 :=
  meets_of (C := c46 FUEL) (ann := an46) (mkC_ok (gs := [(79, g79)]) (is := []) (mt := mtL) tysOK elemOK ⟨meets79, trivial⟩ trivial mtOK FUEL) mixed Try.func46 (by kernel_rfl) (by kernel_rfl) (by kernel_rfl) (of_decide_eq_true (by kernel_rfl)) (fun p => p.1.1) (fun _ _ => ⟨rfl, rfl⟩) ev46
def c47 (N : Nat) : Cx := mkC tyL [(59, g59), (60, g60)] [] mtL N
def g47 : Sig := ⟨(.cons (.pure (.arr 128 (.int .u64))) (.cons (.pure (.pair .str (.pair .str .nl))) .nl)), (.cons (.pure (.arr 128 (.int .u64))) .nl), (List Int), fun x => m_ticketlineref14_Put x.1 x.2.1, fun _ y => (y, ()), fun _ y => ((), ((), ()))⟩
def an47 : Nat → Ann := mkA []
theorem ev47 : ∀ x : g47.ps.den, evalFn (c47 FUEL) an47 Try.f47 (codeOf Try.f47) g47 x (fun p => p.1.1) = g47.m x := by
  intro x
  obtain ⟨x0, x1, xu⟩ := x
  show _ = _
  kernel_rfl
theorem meets47 : Meets Try.prog 47 g47 :=
  meets_of (C := c47 FUEL) (ann := an47) (mkC_ok (gs := [(59, g59), (60, g60)]) (is := []) (mt := mtL) tysOK elemOK ⟨meets59, meets60, trivial⟩ trivial mtOK FUEL) mixed Try.func47 (by kernel_rfl) (by kernel_rfl) (by kernel_rfl) (of_decide_eq_true (by kernel_rfl)) (fun p => p.1.1) (fun _ _ => ⟨rfl, rfl⟩) ev47

end Go.Proofs.Ytbmdoalneeeonaa
