/- A part of the proof of a statement of this seat: the functions keep their promises. No condition. -/
import Derived.Test.YtbmdoalneeeonaaP20a
set_option linter.unusedVariables false
set_option maxRecDepth 100000
namespace Go.Proofs.Ytbmdoalneeeonaa
open Go Go.Ev Go.Ev.M Go.Proofs
def c80 (N : Nat) : Cx := mkC tyL [(88, g88), (89, g89), (90, g90), (91, g91)] [] mtL N
def g80 : Sig := ⟨(.cons (.rptr (.arr 128 (.int .u64))) .nl), (.cons (.own (.pair .str (.pair .str .nl))) (.cons (.pure .bool) .nl)), ((List (ByteArray × (ByteArray × Unit))) × Bool), fun x => m_slot_list x.1, fun _ y => (y.1, (y.2, ())), fun _ y => ((), ())⟩
def an80 : Nat → Ann := mkA [(6, ⟨[0, 5, 18, 19], [(4, (.own (.pair .str (.pair .str .nl))), 300004)], [5], false, []⟩), (15, ⟨[0, 4, 5, 7, 8, 10, 18, 19], [], [300004, 5, 7, 8], false, []⟩)]
noncomputable def k80 (N : Nat) : Ex → St → Option ((List (ByteArray × (ByteArray × Unit))) × Bool) := finK (c80 N) Try.f80 g80 (.cons .top .nl) (fun p => (p.1.1, p.1.2.1))
def a80 : Nat → Ann := annP [] an80
def h80_1 (u1_0 : (List Int)) (u1_1 : Int) (u1_2 : Int) (u1_3 : Int) (u1_4 : (List (ByteArray × (ByteArray × Unit)))) (u1_5 : (List Bool)) (u1_6 : Int) (u1_7 : Int) (u1_8 : Int) (u1_9 : Int) (u1_10 : Int) (u1_11 : ByteArray) (u1_12 : ByteArray) : St := ⟨85, [(0, (.pref (.arr 128 (.int .u64)) u1_0)), (4, (.full 300004)), (5, (.ref 5 [])), (7, (.ref 7 [])), (8, (.ref 8 [])), (10, (.int .i64 u1_1)), (18, (.int .i64 u1_2)), (19, (.int .i64 u1_3))], [(300004, (.bk (.pair .str (.pair .str .nl)) u1_4)), (5, (.arr .bool 128 u1_5)), (7, (.cons (.int .i64 u1_6) (.cons (.int .i64 u1_7) (.cons (.int .i64 u1_8) (.cons (.int .i64 u1_9) (.cons (.int .i64 u1_10) .nl)))))), (8, (.cons (.str u1_11) (.cons (.str u1_12) .nl)))]⟩
def h80_0 (u0_0 : (List Int)) (u0_1 : Int) (u0_2 : Int) (u0_3 : (List Bool)) (u0_4 : (List (ByteArray × (ByteArray × Unit)))) : St := ⟨85, [(4, .full 300004), (0, (.pref (.arr 128 (.int .u64)) u0_0)), (5, (.ref 5 [])), (18, (.int .i64 u0_1)), (19, (.int .i64 u0_2))], [(5, (.arr .bool 128 u0_3)), (300004, (.bk (.pair .str (.pair .str .nl)) u0_4))]⟩
theorem t80_1 : ∀ (N : Nat) (m0 : Nat) (n : Nat) (u1_0 : (List Int)) (u1_1 : Int) (u1_2 : Int) (u1_3 : Int) (u1_4 : (List (ByteArray × (ByteArray × Unit)))) (u1_5 : (List Bool)) (u1_6 : Int) (u1_7 : Int) (u1_8 : Int) (u1_9 : Int) (u1_10 : Int) (u1_11 : ByteArray) (u1_12 : ByteArray), loopAt (c80 N) a80 [1, 1, 1, 1, 0, 1, 0, 0, 1, 1, 0, 0, 1, 1, 1, 1, 1, 0, 1, 0] [m0] (codeOf Try.f80) (k80 N) n (h80_1 u1_0 u1_1 u1_2 u1_3 u1_4 u1_5 u1_6 u1_7 u1_8 u1_9 u1_10 u1_11 u1_12) = m_slot_list_l1 N (fun w0 w1 w2 w3 w4 => loopAt (c80 N) a80 [1, 1, 1, 1, 0, 1, 0] [] (codeOf Try.f80) (k80 N) m0 (h80_0 w0 w1 w2 w3 w4)) n u1_0 u1_1 u1_2 u1_3 u1_4 u1_5 u1_6 u1_7 u1_8 u1_9 u1_10 u1_11 u1_12 := by
  intro N m0 n
  induction n with
  | zero => intro u1_0 u1_1 u1_2 u1_3 u1_4 u1_5 u1_6 u1_7 u1_8 u1_9 u1_10 u1_11 u1_12; kernel_rfl
  | succ n ih =>
    intro u1_0 u1_1 u1_2 u1_3 u1_4 u1_5 u1_6 u1_7 u1_8 u1_9 u1_10 u1_11 u1_12
    have e : loopAt (c80 N) a80 [1, 1, 1, 1, 0, 1, 0, 0, 1, 1, 0, 0, 1, 1, 1, 1, 1, 0, 1, 0] [m0] (codeOf Try.f80) (k80 N) (n + 1) (h80_1 u1_0 u1_1 u1_2 u1_3 u1_4 u1_5 u1_6 u1_7 u1_8 u1_9 u1_10 u1_11 u1_12) = m_slot_list_l1_b (fun w0 w1 w2 w3 w4 => loopAt (c80 N) a80 [1, 1, 1, 1, 0, 1, 0] [] (codeOf Try.f80) (k80 N) m0 (h80_0 w0 w1 w2 w3 w4)) (fun w0 w1 w2 w3 w4 w5 w6 w7 w8 w9 w10 w11 w12 => loopAt (c80 N) a80 [1, 1, 1, 1, 0, 1, 0, 0, 1, 1, 0, 0, 1, 1, 1, 1, 1, 0, 1, 0] [m0] (codeOf Try.f80) (k80 N) n (h80_1 w0 w1 w2 w3 w4 w5 w6 w7 w8 w9 w10 w11 w12)) u1_0 u1_1 u1_2 u1_3 u1_4 u1_5 u1_6 u1_7 u1_8 u1_9 u1_10 u1_11 u1_12 := by kernel_rfl
    refine e.trans ?_
    have es : (fun w0 w1 w2 w3 w4 w5 w6 w7 w8 w9 w10 w11 w12 => loopAt (c80 N) a80 [1, 1, 1, 1, 0, 1, 0, 0, 1, 1, 0, 0, 1, 1, 1, 1, 1, 0, 1, 0] [m0] (codeOf Try.f80) (k80 N) n (h80_1 w0 w1 w2 w3 w4 w5 w6 w7 w8 w9 w10 w11 w12)) = m_slot_list_l1 N (fun w0 w1 w2 w3 w4 => loopAt (c80 N) a80 [1, 1, 1, 1, 0, 1, 0] [] (codeOf Try.f80) (k80 N) m0 (h80_0 w0 w1 w2 w3 w4)) n := by
      funext w0 w1 w2 w3 w4 w5 w6 w7 w8 w9 w10 w11 w12; exact ih w0 w1 w2 w3 w4 w5 w6 w7 w8 w9 w10 w11 w12
    rw [es]
    rw [m_slot_list_l1]
theorem t80_0 : ∀ (N : Nat) (n : Nat) (u0_0 : (List Int)) (u0_1 : Int) (u0_2 : Int) (u0_3 : (List Bool)) (u0_4 : (List (ByteArray × (ByteArray × Unit)))), loopAt (c80 N) a80 [1, 1, 1, 1, 0, 1, 0] [] (codeOf Try.f80) (k80 N) n (h80_0 u0_0 u0_1 u0_2 u0_3 u0_4) = m_slot_list_l0 N n u0_0 u0_1 u0_2 u0_3 u0_4 := by
  intro N n
  induction n with
  | zero => intro u0_0 u0_1 u0_2 u0_3 u0_4; kernel_rfl
  | succ n ih =>
    intro u0_0 u0_1 u0_2 u0_3 u0_4
    have e : loopAt (c80 N) a80 [1, 1, 1, 1, 0, 1, 0] [] (codeOf Try.f80) (k80 N) (n + 1) (h80_0 u0_0 u0_1 u0_2 u0_3 u0_4) = m_slot_list_l0_b (fun w0 w1 w2 w3 w4 => loopAt (c80 N) a80 [1, 1, 1, 1, 0, 1, 0] [] (codeOf Try.f80) (k80 N) n (h80_0 w0 w1 w2 w3 w4)) (fun w0 w1 w2 w3 w4 w5 w6 w7 w8 w9 w10 w11 w12 => loopAt (c80 N) a80 [1, 1, 1, 1, 0, 1, 0, 0, 1, 1, 0, 0, 1, 1, 1, 1, 1, 0, 1, 0] [n] (codeOf Try.f80) (k80 N) N (h80_1 w0 w1 w2 w3 w4 w5 w6 w7 w8 w9 w10 w11 w12)) u0_0 u0_1 u0_2 u0_3 u0_4 := by kernel_rfl
    refine e.trans ?_
    have e1 : (fun w0 w1 w2 w3 w4 w5 w6 w7 w8 w9 w10 w11 w12 => loopAt (c80 N) a80 [1, 1, 1, 1, 0, 1, 0, 0, 1, 1, 0, 0, 1, 1, 1, 1, 1, 0, 1, 0] [n] (codeOf Try.f80) (k80 N) N (h80_1 w0 w1 w2 w3 w4 w5 w6 w7 w8 w9 w10 w11 w12)) = m_slot_list_l1 N (fun w0 w1 w2 w3 w4 => loopAt (c80 N) a80 [1, 1, 1, 1, 0, 1, 0] [] (codeOf Try.f80) (k80 N) n (h80_0 w0 w1 w2 w3 w4)) N := by
      funext w0 w1 w2 w3 w4 w5 w6 w7 w8 w9 w10 w11 w12; exact t80_1 N n N w0 w1 w2 w3 w4 w5 w6 w7 w8 w9 w10 w11 w12
    rw [e1]
    have es : (fun w0 w1 w2 w3 w4 => loopAt (c80 N) a80 [1, 1, 1, 1, 0, 1, 0] [] (codeOf Try.f80) (k80 N) n (h80_0 w0 w1 w2 w3 w4)) = m_slot_list_l0 N n := by
      funext w0 w1 w2 w3 w4; exact ih w0 w1 w2 w3 w4
    rw [es]
    rw [m_slot_list_l0]
theorem ew80 : ∀ (N : Nat) (x : g80.ps.den), evalFn (c80 N) an80 Try.f80 (codeOf Try.f80) g80 x (fun p => (p.1.1, p.1.2.1)) = m_slot_list_a (m_slot_list_l0 N N) x.1 := by
  intro N
  intro x
  obtain ⟨x0, xu⟩ := x
  have e : evalFn (c80 N) an80 Try.f80 (codeOf Try.f80) g80 (x0, xu) (fun p => (p.1.1, p.1.2.1)) = m_slot_list_a (fun w0 w1 w2 w3 w4 => loopAt (c80 N) a80 [1, 1, 1, 1, 0, 1, 0] [] (codeOf Try.f80) (k80 N) N (h80_0 w0 w1 w2 w3 w4)) x0 := by kernel_rfl
  refine e.trans ?_
  have e0 : (fun w0 w1 w2 w3 w4 => loopAt (c80 N) a80 [1, 1, 1, 1, 0, 1, 0] [] (codeOf Try.f80) (k80 N) N (h80_0 w0 w1 w2 w3 w4)) = m_slot_list_l0 N N := by
    funext w0 w1 w2 w3 w4; exact t80_0 N N w0 w1 w2 w3 w4
  rw [e0]
theorem ev80 : ∀ x : g80.ps.den, evalFn (c80 FUEL) an80 Try.f80 (codeOf Try.f80) g80 x (fun p => (p.1.1, p.1.2.1)) = g80.m x := fun x => ew80 FUEL x
theorem meets80 : Meets Try.prog 80 g80 :=
  meets_of (C := c80 FUEL) (ann := an80) (mkC_ok (gs := [(88, g88), (89, g89), (90, g90), (91, g91)]) (is := []) (mt := mtL) tysOK elemOK ⟨meets88, meets89, meets90, meets91, trivial⟩ trivial mtOK FUEL) mixed Try.func80 (by kernel_rfl) (by kernel_rfl) (by kernel_rfl) (of_decide_eq_true (by kernel_rfl)) (fun p => (p.1.1, p.1.2.1)) (fun _ _ => ⟨rfl, rfl⟩) ev80
def c49 (N : Nat) : Cx := mkC tyL [(80, g80)] [] mtL N
def g49 : Sig := ⟨(.cons (.pure (.arr 128 (.int .u64))) .nl), (.cons (.pure .bool) .nl), Bool, fun x => m_slot_Valid x.1, fun _ y => (y, ()), fun _ y => ((), ())⟩
def an49 : Nat → Ann := mkA []
theorem ev49 : ∀ x : g49.ps.den, evalFn (c49 FUEL) an49 Try.f49 (codeOf Try.f49) g49 x (fun p => p.1.1) = g49.m x := by
  intro x
  obtain ⟨x0, xu⟩ := x
  show _ = _
  kernel_rfl
theorem meets49 : Meets Try.prog 49 g49 :=
  meets_of (C := c49 FUEL) (ann := an49) (mkC_ok (gs := [(80, g80)]) (is := []) (mt := mtL) tysOK elemOK ⟨meets80, trivial⟩ trivial mtOK FUEL) mixed Try.func49 (by kernel_rfl) (by kernel_rfl) (by kernel_rfl) (of_decide_eq_true (by kernel_rfl)) (fun p => p.1.1) (fun _ _ => ⟨rfl, rfl⟩) ev49
def c18 (N : Nat) : Cx := mkC tyL [(49, g49), (51, g51), (52, g52)] [] mtL N
def g18 : Sig := ⟨(.cons (.ptr (.cons (.cons (.ptr (.cons (.own (.int .u64)) .nl)) .nl) .nl)) (.cons (.pure (.int .i64)) (.cons (.pure (.arr 128 (.int .u64))) .nl))), (.cons (.pure (.int .i64)) .nl), (Int × ((((List Int) × Unit) × Unit) × Unit)), fun x => m_arena_Arena_Write x.1 x.2.1 x.2.2.1, fun _ y => (y.1, ()), fun _ y => (y.2, ((), ((), ())))⟩
def an18 : Nat → Ann := mkA []
theorem ev18 : ∀ x : g18.ps.den, evalFn (c18 FUEL) an18 Try.f18 (codeOf Try.f18) g18 x (fun p => (p.1.1, p.2.1)) = g18.m x := by
  intro x
  obtain ⟨x0, x1, x2, xu⟩ := x
  show _ = _
  kernel_rfl
theorem meets18 : Meets Try.prog 18 g18 :=
  meets_of (C := c18 FUEL) (ann := an18) (mkC_ok (gs := [(49, g49), (51, g51), (52, g52)]) (is := []) (mt := mtL) tysOK elemOK ⟨meets49, meets51, meets52, trivial⟩ trivial mtOK FUEL) mixed Try.func18 (by kernel_rfl) (by kernel_rfl) (by kernel_rfl) (of_decide_eq_true (by kernel_rfl)) (fun p => (p.1.1, p.2.1)) (fun _ _ => ⟨rfl, rfl⟩) ev18
noncomputable def c54 (N : Nat) : Cx := mkC tyL [(43, g43), (61, g61), (81, g81)] [(50, i50)] mtL N
def g54 : Sig := ⟨(.cons (.ptr (.cons (.cons (.ptr (.cons (.own (.int .u64)) .nl)) .nl) .nl)) (.cons (.pure (.int .i64)) (.cons (.pure (.int .u64)) .nl))), (.cons (.own (.int .i64)) (.cons (.pure .bool) .nl)), ((List Int) × Bool × ((((List Int) × Unit) × Unit) × Unit)), fun x => m_arena_Arena_list x.1 x.2.1 x.2.2.1, fun _ y => (y.1, (y.2.1, ())), fun _ y => (y.2.2, ((), ((), ())))⟩
def an54 : Nat → Ann := mkA [(3, ⟨[0, 2, 9], [(8, (.own (.int .i64)), 300008)], [], false, [(100000, [.fld 0, .fld 0], (.ptr (.cons (.own (.int .u64)) .nl)), 2001600000)]⟩)]
noncomputable def k54 (N : Nat) : Ex → St → Option ((List Int) × Bool × ((((List Int) × Unit) × Unit) × Unit)) := finK (c54 N) Try.f54 g54 (.cons (.ref 100000 []) (.cons .top (.cons .top .nl))) (fun p => (p.1.1, p.1.2.1, p.2.1))
def a54 : Nat → Ann := annP [100000] an54
def h54_0 (u0_0 : Int) (u0_1 : Int) (u0_2 : (List Int)) (u0_3 : (List Int)) : St := ⟨52, [(8, .full 300008), (0, (.ref 100000 [])), (2, (.int .u64 u0_0)), (9, (.int .u64 u0_1))], [(100000, (.cons (.cons (.ref 2001600000 []) .nl) .nl)), (300008, (.bk (.int .i64) u0_2)), (2001600000, (.cons (.full 2001600001) .nl)), (2001600001, (.bk (.int .u64) u0_3))]⟩
theorem t54_0 : ∀ (N : Nat) (n : Nat) (u0_0 : Int) (u0_1 : Int) (u0_2 : (List Int)) (u0_3 : (List Int)), loopAt (c54 N) a54 [1, 1, 1, 0, 0] [] (codeOf Try.f54) (k54 N) n (h54_0 u0_0 u0_1 u0_2 u0_3) = m_arena_Arena_list_l0 N n u0_0 u0_1 u0_2 u0_3 := by
  intro N n
  induction n with
  | zero => intro u0_0 u0_1 u0_2 u0_3; kernel_rfl
  | succ n ih =>
    intro u0_0 u0_1 u0_2 u0_3
    have e : loopAt (c54 N) a54 [1, 1, 1, 0, 0] [] (codeOf Try.f54) (k54 N) (n + 1) (h54_0 u0_0 u0_1 u0_2 u0_3) = m_arena_Arena_list_l0_b (fun w0 w1 w2 w3 => loopAt (c54 N) a54 [1, 1, 1, 0, 0] [] (codeOf Try.f54) (k54 N) n (h54_0 w0 w1 w2 w3)) u0_0 u0_1 u0_2 u0_3 := by kernel_rfl
    refine e.trans ?_
    have es : (fun w0 w1 w2 w3 => loopAt (c54 N) a54 [1, 1, 1, 0, 0] [] (codeOf Try.f54) (k54 N) n (h54_0 w0 w1 w2 w3)) = m_arena_Arena_list_l0 N n := by
      funext w0 w1 w2 w3; exact ih w0 w1 w2 w3
    rw [es]
    rw [m_arena_Arena_list_l0]
theorem ew54 : ∀ (N : Nat) (x : g54.ps.den), evalFn (c54 N) an54 Try.f54 (codeOf Try.f54) g54 x (fun p => (p.1.1, p.1.2.1, p.2.1)) = m_arena_Arena_list_a (m_arena_Arena_list_l0 N N) x.1 x.2.1 x.2.2.1 := by
  intro N
  intro x
  obtain ⟨x0, x1, x2, xu⟩ := x
  have e : evalFn (c54 N) an54 Try.f54 (codeOf Try.f54) g54 (x0, x1, x2, xu) (fun p => (p.1.1, p.1.2.1, p.2.1)) = m_arena_Arena_list_a (fun w0 w1 w2 w3 => loopAt (c54 N) a54 [1, 1, 1, 0, 0] [] (codeOf Try.f54) (k54 N) N (h54_0 w0 w1 w2 w3)) x0 x1 x2 := by kernel_rfl
  refine e.trans ?_
  have e0 : (fun w0 w1 w2 w3 => loopAt (c54 N) a54 [1, 1, 1, 0, 0] [] (codeOf Try.f54) (k54 N) N (h54_0 w0 w1 w2 w3)) = m_arena_Arena_list_l0 N N := by
    funext w0 w1 w2 w3; exact t54_0 N N w0 w1 w2 w3
  rw [e0]
theorem ev54 : ∀ x : g54.ps.den, evalFn (c54 FUEL) an54 Try.f54 (codeOf Try.f54) g54 x (fun p => (p.1.1, p.1.2.1, p.2.1)) = g54.m x := fun x => ew54 FUEL x
theorem meets54 : Meets Try.prog 54 g54 :=
  meets_of (C := c54 FUEL) (ann := an54) (mkC_ok (gs := [(43, g43), (61, g61), (81, g81)]) (is := [(50, i50)]) (mt := mtL) tysOK elemOK ⟨meets43, meets61, meets81, trivial⟩ ⟨inl50, trivial⟩ mtOK FUEL) mixed Try.func54 (by kernel_rfl) (by kernel_rfl) (by kernel_rfl) (of_decide_eq_true (by kernel_rfl)) (fun p => (p.1.1, p.1.2.1, p.2.1)) (fun _ _ => ⟨rfl, rfl⟩) ev54
noncomputable def c58 (N : Nat) : Cx := mkC tyL [(61, g61), (62, g62), (81, g81)] [(48, i48)] mtL N
def g58 : Sig := ⟨(.cons (.ptr (.cons (.cons (.ptr (.cons (.own (.int .u64)) .nl)) .nl) .nl)) .nl), (.cons (.pure (.int .i64)) (.cons (.pure (.int .i64)) (.cons (.pure (.int .i64)) (.cons (.pure (.int .i64)) .nl)))), (Int × Int × Int × Int × ((((List Int) × Unit) × Unit) × Unit)), fun x => m_arena_Arena_Counts x.1, fun _ y => (y.1, (y.2.1, (y.2.2.1, (y.2.2.2.1, ())))), fun _ y => (y.2.2.2.2, ())⟩
def an58 : Nat → Ann := mkA [(4, ⟨[0, 3, 4, 5, 6], [], [], false, [(100000, [.fld 0, .fld 0], (.ptr (.cons (.own (.int .u64)) .nl)), 2001600000)]⟩)]
noncomputable def k58 (N : Nat) : Ex → St → Option (Int × Int × Int × Int × ((((List Int) × Unit) × Unit) × Unit)) := finK (c58 N) Try.f58 g58 (.cons (.ref 100000 []) .nl) (fun p => (p.1.1, p.1.2.1, p.1.2.2.1, p.1.2.2.2.1, p.2.1))
def a58 : Nat → Ann := annP [100000] an58
def h58_0 (u0_0 : Int) (u0_1 : Int) (u0_2 : Int) (u0_3 : Int) (u0_4 : (List Int)) : St := ⟨40, [(0, (.ref 100000 [])), (3, (.int .i64 u0_0)), (4, (.int .i64 u0_1)), (5, (.int .i64 u0_2)), (6, (.int .i64 u0_3))], [(100000, (.cons (.cons (.ref 2001600000 []) .nl) .nl)), (2001600000, (.cons (.full 2001600001) .nl)), (2001600001, (.bk (.int .u64) u0_4))]⟩
theorem t58_0 : ∀ (N : Nat) (n : Nat) (u0_0 : Int) (u0_1 : Int) (u0_2 : Int) (u0_3 : Int) (u0_4 : (List Int)), loopAt (c58 N) a58 [1, 1, 0, 1, 0] [] (codeOf Try.f58) (k58 N) n (h58_0 u0_0 u0_1 u0_2 u0_3 u0_4) = m_arena_Arena_Counts_l0 N n u0_0 u0_1 u0_2 u0_3 u0_4 := by
  intro N n
  induction n with
  | zero => intro u0_0 u0_1 u0_2 u0_3 u0_4; kernel_rfl
  | succ n ih =>
    intro u0_0 u0_1 u0_2 u0_3 u0_4
    have e : loopAt (c58 N) a58 [1, 1, 0, 1, 0] [] (codeOf Try.f58) (k58 N) (n + 1) (h58_0 u0_0 u0_1 u0_2 u0_3 u0_4) = m_arena_Arena_Counts_l0_b (fun w0 w1 w2 w3 w4 => loopAt (c58 N) a58 [1, 1, 0, 1, 0] [] (codeOf Try.f58) (k58 N) n (h58_0 w0 w1 w2 w3 w4)) u0_0 u0_1 u0_2 u0_3 u0_4 := by kernel_rfl
    refine e.trans ?_
    have es : (fun w0 w1 w2 w3 w4 => loopAt (c58 N) a58 [1, 1, 0, 1, 0] [] (codeOf Try.f58) (k58 N) n (h58_0 w0 w1 w2 w3 w4)) = m_arena_Arena_Counts_l0 N n := by
      funext w0 w1 w2 w3 w4; exact ih w0 w1 w2 w3 w4
    rw [es]
    rw [m_arena_Arena_Counts_l0]
theorem ew58 : ∀ (N : Nat) (x : g58.ps.den), evalFn (c58 N) an58 Try.f58 (codeOf Try.f58) g58 x (fun p => (p.1.1, p.1.2.1, p.1.2.2.1, p.1.2.2.2.1, p.2.1)) = m_arena_Arena_Counts_a (m_arena_Arena_Counts_l0 N N) x.1 := by
  intro N
  intro x
  obtain ⟨x0, xu⟩ := x
  have e : evalFn (c58 N) an58 Try.f58 (codeOf Try.f58) g58 (x0, xu) (fun p => (p.1.1, p.1.2.1, p.1.2.2.1, p.1.2.2.2.1, p.2.1)) = m_arena_Arena_Counts_a (fun w0 w1 w2 w3 w4 => loopAt (c58 N) a58 [1, 1, 0, 1, 0] [] (codeOf Try.f58) (k58 N) N (h58_0 w0 w1 w2 w3 w4)) x0 := by kernel_rfl
  refine e.trans ?_
  have e0 : (fun w0 w1 w2 w3 w4 => loopAt (c58 N) a58 [1, 1, 0, 1, 0] [] (codeOf Try.f58) (k58 N) N (h58_0 w0 w1 w2 w3 w4)) = m_arena_Arena_Counts_l0 N N := by
    funext w0 w1 w2 w3 w4; exact t58_0 N N w0 w1 w2 w3 w4
  rw [e0]
theorem ev58 : ∀ x : g58.ps.den, evalFn (c58 FUEL) an58 Try.f58 (codeOf Try.f58) g58 x (fun p => (p.1.1, p.1.2.1, p.1.2.2.1, p.1.2.2.2.1, p.2.1)) = g58.m x := fun x => ew58 FUEL x
theorem meets58 : Meets Try.prog 58 g58 :=
  meets_of (C := c58 FUEL) (ann := an58) (mkC_ok (gs := [(61, g61), (62, g62), (81, g81)]) (is := [(48, i48)]) (mt := mtL) tysOK elemOK ⟨meets61, meets62, meets81, trivial⟩ ⟨inl48, trivial⟩ mtOK FUEL) mixed Try.func58 (by kernel_rfl) (by kernel_rfl) (by kernel_rfl) (of_decide_eq_true (by kernel_rfl)) (fun p => (p.1.1, p.1.2.1, p.1.2.2.1, p.1.2.2.2.1, p.2.1)) (fun _ _ => ⟨rfl, rfl⟩) ev58
noncomputable def c57 (N : Nat) : Cx := mkC tyL [(43, g43), (54, g54), (58, g58), (62, g62)] [(50, i50)] mtL N
def g57 : Sig := ⟨(.cons (.ptr (.cons (.cons (.ptr (.cons (.own (.int .u64)) .nl)) .nl) .nl)) .nl), (.cons (.pure .bool) .nl), (Bool × ((((List Int) × Unit) × Unit) × Unit)), fun x => m_arena_Arena_sound x.1, fun _ y => (y.1, ()), fun _ y => (y.2, ())⟩
def an57 : Nat → Ann := mkA [(8, ⟨[0, 7, 11, 73, 74, 75], [], [200738, 200896], false, [(200896, [.fld 0], (.own (.int .u64)), 2003214336)]⟩)]
noncomputable def k57 (N : Nat) : Ex → St → Option (Bool × ((((List Int) × Unit) × Unit) × Unit)) := finK (c57 N) Try.f57 g57 (.cons (.ref 100000 []) .nl) (fun p => (p.1.1, p.2.1))
def a57 : Nat → Ann := annP [100000] an57
def h57_0 (u0_0 : Int) (u0_1 : Int) (u0_2 : Int) (u0_3 : Int) (u0_4 : (List Int)) (u0_5 : (List Int)) : St := ⟨114, [(0, (.ref 100000 [])), (7, (.int .i64 u0_0)), (11, (.int .u64 u0_1)), (73, (.full 200738)), (74, (.int .i64 u0_2)), (75, (.int .i64 u0_3))], [(100000, (.cons (.cons (.ref 200896 []) .nl) .nl)), (200738, (.bk (.int .i64) u0_4)), (200896, (.cons (.full 2003214336) .nl)), (2003214336, (.bk (.int .u64) u0_5))]⟩
theorem t57_0 : ∀ (N : Nat) (n : Nat) (u0_0 : Int) (u0_1 : Int) (u0_2 : Int) (u0_3 : Int) (u0_4 : (List Int)) (u0_5 : (List Int)), loopAt (c57 N) a57 [1, 1, 1, 1, 1, 1, 0, 1, 0] [] (codeOf Try.f57) (k57 N) n (h57_0 u0_0 u0_1 u0_2 u0_3 u0_4 u0_5) = m_arena_Arena_sound_l0 N n u0_0 u0_1 u0_2 u0_3 u0_4 u0_5 := by
  intro N n
  induction n with
  | zero => intro u0_0 u0_1 u0_2 u0_3 u0_4 u0_5; kernel_rfl
  | succ n ih =>
    intro u0_0 u0_1 u0_2 u0_3 u0_4 u0_5
    have e : loopAt (c57 N) a57 [1, 1, 1, 1, 1, 1, 0, 1, 0] [] (codeOf Try.f57) (k57 N) (n + 1) (h57_0 u0_0 u0_1 u0_2 u0_3 u0_4 u0_5) = m_arena_Arena_sound_l0_b (fun w0 w1 w2 w3 w4 w5 => loopAt (c57 N) a57 [1, 1, 1, 1, 1, 1, 0, 1, 0] [] (codeOf Try.f57) (k57 N) n (h57_0 w0 w1 w2 w3 w4 w5)) u0_0 u0_1 u0_2 u0_3 u0_4 u0_5 := by kernel_rfl
    refine e.trans ?_
    have es : (fun w0 w1 w2 w3 w4 w5 => loopAt (c57 N) a57 [1, 1, 1, 1, 1, 1, 0, 1, 0] [] (codeOf Try.f57) (k57 N) n (h57_0 w0 w1 w2 w3 w4 w5)) = m_arena_Arena_sound_l0 N n := by
      funext w0 w1 w2 w3 w4 w5; exact ih w0 w1 w2 w3 w4 w5
    rw [es]
    rw [m_arena_Arena_sound_l0]
theorem ew57 : ∀ (N : Nat) (x : g57.ps.den), evalFn (c57 N) an57 Try.f57 (codeOf Try.f57) g57 x (fun p => (p.1.1, p.2.1)) = m_arena_Arena_sound_a (m_arena_Arena_sound_l0 N N) x.1 := by
  intro N
  intro x
  obtain ⟨x0, xu⟩ := x
  have e : evalFn (c57 N) an57 Try.f57 (codeOf Try.f57) g57 (x0, xu) (fun p => (p.1.1, p.2.1)) = m_arena_Arena_sound_a (fun w0 w1 w2 w3 w4 w5 => loopAt (c57 N) a57 [1, 1, 1, 1, 1, 1, 0, 1, 0] [] (codeOf Try.f57) (k57 N) N (h57_0 w0 w1 w2 w3 w4 w5)) x0 := by kernel_rfl
  refine e.trans ?_
  have e0 : (fun w0 w1 w2 w3 w4 w5 => loopAt (c57 N) a57 [1, 1, 1, 1, 1, 1, 0, 1, 0] [] (codeOf Try.f57) (k57 N) N (h57_0 w0 w1 w2 w3 w4 w5)) = m_arena_Arena_sound_l0 N N := by
    funext w0 w1 w2 w3 w4 w5; exact t57_0 N N w0 w1 w2 w3 w4 w5
  rw [e0]
theorem ev57 : ∀ x : g57.ps.den, evalFn (c57 FUEL) an57 Try.f57 (codeOf Try.f57) g57 x (fun p => (p.1.1, p.2.1)) = g57.m x := fun x => ew57 FUEL x
theorem meets57 : Meets Try.prog 57 g57 :=
  meets_of (C := c57 FUEL) (ann := an57) (mkC_ok (gs := [(43, g43), (54, g54), (58, g58), (62, g62)]) (is := [(50, i50)]) (mt := mtL) tysOK elemOK ⟨meets43, meets54, meets58, meets62, trivial⟩ ⟨inl50, trivial⟩ mtOK FUEL) mixed Try.func57 (by kernel_rfl) (by kernel_rfl) (by kernel_rfl) (of_decide_eq_true (by kernel_rfl)) (fun p => (p.1.1, p.2.1)) (fun _ _ => ⟨rfl, rfl⟩) ev57
noncomputable def c20 (N : Nat) : Cx := mkC tyL [(43, g43), (44, g44), (56, g56), (57, g57)] [(42, i42)] mtL N
def g20 : Sig := ⟨(.cons (.ptr (.cons (.own (.int .u64)) .nl)) .nl), (.cons (.nptr (.cons (.cons (.ptr (.cons (.own (.int .u64)) .nl)) .nl) .nl)) (.cons (.pure (.int .i64)) .nl)), ((Option ((((List Int) × Unit) × Unit) × Unit)) × Int × ((List Int) × Unit)), fun x => m_arena_Open x.1, fun _ y => (y.1, (y.2.1, ())), fun _ y => (y.2.2, ())⟩
def an20 : Nat → Ann := mkA []
theorem ev20 : ∀ x : g20.ps.den, evalFn (c20 FUEL) an20 Try.f20 (codeOf Try.f20) g20 x (fun p => (p.1.1, p.1.2.1, p.2.1)) = g20.m x := by
  intro x
  obtain ⟨x0, xu⟩ := x
  show _ = _
  kernel_rfl
theorem meets20 : Meets Try.prog 20 g20 :=
  meets_of (C := c20 FUEL) (ann := an20) (mkC_ok (gs := [(43, g43), (44, g44), (56, g56), (57, g57)]) (is := [(42, i42)]) (mt := mtL) tysOK elemOK ⟨meets43, meets44, meets56, meets57, trivial⟩ ⟨inl42, trivial⟩ mtOK FUEL) mixed Try.func20 (by kernel_rfl) (by kernel_rfl) (by kernel_rfl) (of_decide_eq_true (by kernel_rfl)) (fun p => (p.1.1, p.1.2.1, p.2.1)) (fun _ _ => ⟨rfl, rfl⟩) ev20
def c22 (N : Nat) : Cx := mkC tyL [(58, g58)] [] mtL N
def g22 : Sig := ⟨(.cons (.ptr (.cons (.cons (.ptr (.cons (.own (.int .u64)) .nl)) .nl) .nl)) (.cons (.pure (.int .i64)) (.cons (.pure (.int .i64)) (.cons (.pure (.int .i64)) (.cons (.pure (.int .i64)) .nl))))), (.cons (.pure .bool) .nl), (Bool × ((((List Int) × Unit) × Unit) × Unit)), fun x => m_ticketlinelaw20_counts x.1 x.2.1 x.2.2.1 x.2.2.2.1 x.2.2.2.2.1, fun _ y => (y.1, ()), fun _ y => (y.2, ((), ((), ((), ((), ())))))⟩
def an22 : Nat → Ann := mkA []
theorem ev22 : ∀ x : g22.ps.den, evalFn (c22 FUEL) an22 Try.f22 (codeOf Try.f22) g22 x (fun p => (p.1.1, p.2.1)) = g22.m x := by
  intro x
  obtain ⟨x0, x1, x2, x3, x4, xu⟩ := x
  show _ = _
  kernel_rfl
theorem meets22 : Meets Try.prog 22 g22 :=
  meets_of (C := c22 FUEL) (ann := an22) (mkC_ok (gs := [(58, g58)]) (is := []) (mt := mtL) tysOK elemOK ⟨meets58, trivial⟩ trivial mtOK FUEL) mixed Try.func22 (by kernel_rfl) (by kernel_rfl) (by kernel_rfl) (of_decide_eq_true (by kernel_rfl)) (fun p => (p.1.1, p.2.1)) (fun _ _ => ⟨rfl, rfl⟩) ev22
def c23 (N : Nat) : Cx := mkC tyL [] [] mtL N
def g23 : Sig := ⟨(.cons (.nptr (.cons (.cons (.ptr (.cons (.own (.int .u64)) .nl)) .nl) .nl)) (.cons (.pure (.int .i64)) (.cons (.pure (.int .i64)) .nl))), (.cons (.pure .bool) .nl), (Bool × (Option ((((List Int) × Unit) × Unit) × Unit))), fun x => m_ticketlinelaw20_fails x.1 x.2.1 x.2.2.1, fun _ y => (y.1, ()), fun _ y => (y.2, ((), ((), ())))⟩
def an23 : Nat → Ann := mkA []
theorem ev23 : ∀ x : g23.ps.den, evalFn (c23 FUEL) an23 Try.f23 (codeOf Try.f23) g23 x (fun p => (p.1.1, p.2.1)) = g23.m x := by
  intro x
  obtain ⟨x0, x1, x2, xu⟩ := x
  show _ = _
  kernel_rfl
theorem meets23 : Meets Try.prog 23 g23 :=
  meets_of (C := c23 FUEL) (ann := an23) (mkC_ok (gs := []) (is := []) (mt := mtL) tysOK elemOK trivial trivial mtOK FUEL) mixed Try.func23 (by kernel_rfl) (by kernel_rfl) (by kernel_rfl) (of_decide_eq_true (by kernel_rfl)) (fun p => (p.1.1, p.2.1)) (fun _ _ => ⟨rfl, rfl⟩) ev23
def c59 (N : Nat) : Cx := mkC tyL [] [] mtL N
def g59 : Sig := ⟨(.cons (.ptr (.pure (.arr 128 (.int .u64)))) (.cons (.pure (.int .i64)) (.cons (.pure (.sl (.int .u64))) .nl))), .nl, (List Int), fun x => m_ticketlineref14_put x.1 x.2.1 x.2.2.1, fun _ y => (), fun _ y => (y, ((), ((), ())))⟩
def an59 : Nat → Ann := mkA [(1, ⟨[0, 1, 2, 6], [], [], false, []⟩)]
noncomputable def k59 (N : Nat) : Ex → St → Option (List Int) := finK (c59 N) Try.f59 g59 (.cons (.ref 100000 []) (.cons .top (.cons .top .nl))) (fun p => p.2.1)
def a59 : Nat → Ann := annP [100000] an59
def h59_0 (u0_0 : Int) (u0_1 : (List Int)) (u0_2 : Int) (u0_3 : (List Int)) : St := ⟨23, [(0, (.ref 100000 [])), (1, (.int .i64 u0_0)), (2, (.lst (.int .u64) u0_1)), (6, (.int .i64 u0_2))], [(100000, (.arr (.int .u64) 128 u0_3))]⟩
theorem t59_0 : ∀ (N : Nat) (n : Nat) (u0_0 : Int) (u0_1 : (List Int)) (u0_2 : Int) (u0_3 : (List Int)), loopAt (c59 N) a59 [1, 0] [] (codeOf Try.f59) (k59 N) n (h59_0 u0_0 u0_1 u0_2 u0_3) = m_ticketlineref14_put_l0 N n u0_0 u0_1 u0_2 u0_3 := by
  intro N n
  induction n with
  | zero => intro u0_0 u0_1 u0_2 u0_3; kernel_rfl
  | succ n ih =>
    intro u0_0 u0_1 u0_2 u0_3
    have e : loopAt (c59 N) a59 [1, 0] [] (codeOf Try.f59) (k59 N) (n + 1) (h59_0 u0_0 u0_1 u0_2 u0_3) = m_ticketlineref14_put_l0_b (fun w0 w1 w2 w3 => loopAt (c59 N) a59 [1, 0] [] (codeOf Try.f59) (k59 N) n (h59_0 w0 w1 w2 w3)) u0_0 u0_1 u0_2 u0_3 := by kernel_rfl
    refine e.trans ?_
    have es : (fun w0 w1 w2 w3 => loopAt (c59 N) a59 [1, 0] [] (codeOf Try.f59) (k59 N) n (h59_0 w0 w1 w2 w3)) = m_ticketlineref14_put_l0 N n := by
      funext w0 w1 w2 w3; exact ih w0 w1 w2 w3
    rw [es]
    rw [m_ticketlineref14_put_l0]
theorem ew59 : ∀ (N : Nat) (x : g59.ps.den), evalFn (c59 N) an59 Try.f59 (codeOf Try.f59) g59 x (fun p => p.2.1) = m_ticketlineref14_put_a (m_ticketlineref14_put_l0 N N) x.1 x.2.1 x.2.2.1 := by
  intro N
  intro x
  obtain ⟨x0, x1, x2, xu⟩ := x
  have e : evalFn (c59 N) an59 Try.f59 (codeOf Try.f59) g59 (x0, x1, x2, xu) (fun p => p.2.1) = m_ticketlineref14_put_a (fun w0 w1 w2 w3 => loopAt (c59 N) a59 [1, 0] [] (codeOf Try.f59) (k59 N) N (h59_0 w0 w1 w2 w3)) x0 x1 x2 := by kernel_rfl
  refine e.trans ?_
  have e0 : (fun w0 w1 w2 w3 => loopAt (c59 N) a59 [1, 0] [] (codeOf Try.f59) (k59 N) N (h59_0 w0 w1 w2 w3)) = m_ticketlineref14_put_l0 N N := by
    funext w0 w1 w2 w3; exact t59_0 N N w0 w1 w2 w3
  rw [e0]
theorem ev59 : ∀ x : g59.ps.den, evalFn (c59 FUEL) an59 Try.f59 (codeOf Try.f59) g59 x (fun p => p.2.1) = g59.m x := fun x => ew59 FUEL x
theorem meets59 : Meets Try.prog 59 g59 :=
  meets_of (C := c59 FUEL) (ann := an59) (mkC_ok (gs := []) (is := []) (mt := mtL) tysOK elemOK trivial trivial mtOK FUEL) mixed Try.func59 (by kernel_rfl) (by kernel_rfl) (by kernel_rfl) (of_decide_eq_true (by kernel_rfl)) (fun p => p.2.1) (fun _ _ => ⟨rfl, rfl⟩) ev59
def c79 (N : Nat) : Cx := mkC tyL [] [] mtL N
def g79 : Sig := ⟨(.cons (.pure (.int .i64)) .nl), (.cons (.pure (.int .i64)) .nl), Int, fun x => m_ticketlineref14_Words x.1, fun _ y => (y, ()), fun _ y => ((), ())⟩
def an79 : Nat → Ann := mkA []
theorem ev79 : ∀ x : g79.ps.den, evalFn (c79 FUEL) an79 Try.f79 (codeOf Try.f79) g79 x (fun p => p.1.1) = g79.m x := by
  intro x
  obtain ⟨x0, xu⟩ := x
  show _ = _
  kernel_rfl
theorem meets79 : Meets Try.prog 79 g79 :=
  meets_of (C := c79 FUEL) (ann := an79) (mkC_ok (gs := []) (is := []) (mt := mtL) tysOK elemOK trivial trivial mtOK FUEL) mixed Try.func79 (by kernel_rfl) (by kernel_rfl) (by kernel_rfl) (of_decide_eq_true (by kernel_rfl)) (fun p => p.1.1) (fun _ _ => ⟨rfl, rfl⟩) ev79
def c60 (N : Nat) : Cx := mkC tyL [(79, g79)] [] mtL N
def g60 : Sig := ⟨(.cons (.pure .str) .nl), (.cons (.own (.int .u64)) .nl), (List Int), fun x => m_ticketlineref14_Pack x.1, fun _ y => (y, ()), fun _ y => ((), ())⟩
def an60 : Nat → Ann := mkA [(3, ⟨[0, 3, 4], [], [9], false, []⟩)]
noncomputable def k60 (N : Nat) : Ex → St → Option (List Int) := finK (c60 N) Try.f60 g60 (.cons .top .nl) (fun p => p.1.1)
def a60 : Nat → Ann := annP [] an60
def h60_0 (u0_0 : ByteArray) (u0_1 : Int) (u0_2 : (List Int)) : St := ⟨38, [(0, (.str u0_0)), (3, (.full 9)), (4, (.int .i64 u0_1))], [(9, (.bk (.int .u64) u0_2))]⟩
theorem t60_0 : ∀ (N : Nat) (n : Nat) (u0_0 : ByteArray) (u0_1 : Int) (u0_2 : (List Int)), loopAt (c60 N) a60 [1, 1, 0, 1, 0] [] (codeOf Try.f60) (k60 N) n (h60_0 u0_0 u0_1 u0_2) = m_ticketlineref14_Pack_l0 N n u0_0 u0_1 u0_2 := by
  intro N n
  induction n with
  | zero => intro u0_0 u0_1 u0_2; kernel_rfl
  | succ n ih =>
    intro u0_0 u0_1 u0_2
    have e : loopAt (c60 N) a60 [1, 1, 0, 1, 0] [] (codeOf Try.f60) (k60 N) (n + 1) (h60_0 u0_0 u0_1 u0_2) = m_ticketlineref14_Pack_l0_b (fun w0 w1 w2 => loopAt (c60 N) a60 [1, 1, 0, 1, 0] [] (codeOf Try.f60) (k60 N) n (h60_0 w0 w1 w2)) u0_0 u0_1 u0_2 := by kernel_rfl
    refine e.trans ?_
    have es : (fun w0 w1 w2 => loopAt (c60 N) a60 [1, 1, 0, 1, 0] [] (codeOf Try.f60) (k60 N) n (h60_0 w0 w1 w2)) = m_ticketlineref14_Pack_l0 N n := by
      funext w0 w1 w2; exact ih w0 w1 w2
    rw [es]
    rw [m_ticketlineref14_Pack_l0]
theorem ew60 : ∀ (N : Nat) (x : g60.ps.den), evalFn (c60 N) an60 Try.f60 (codeOf Try.f60) g60 x (fun p => p.1.1) = m_ticketlineref14_Pack_a (m_ticketlineref14_Pack_l0 N N) x.1 := by
  intro N
  intro x
  obtain ⟨x0, xu⟩ := x
  have e : evalFn (c60 N) an60 Try.f60 (codeOf Try.f60) g60 (x0, xu) (fun p => p.1.1) = m_ticketlineref14_Pack_a (fun w0 w1 w2 => loopAt (c60 N) a60 [1, 1, 0, 1, 0] [] (codeOf Try.f60) (k60 N) N (h60_0 w0 w1 w2)) x0 := by kernel_rfl
  refine e.trans ?_
  have e0 : (fun w0 w1 w2 => loopAt (c60 N) a60 [1, 1, 0, 1, 0] [] (codeOf Try.f60) (k60 N) N (h60_0 w0 w1 w2)) = m_ticketlineref14_Pack_l0 N N := by
    funext w0 w1 w2; exact t60_0 N N w0 w1 w2
  rw [e0]
theorem ev60 : ∀ x : g60.ps.den, evalFn (c60 FUEL) an60 Try.f60 (codeOf Try.f60) g60 x (fun p => p.1.1) = g60.m x := fun x => ew60 FUEL x
theorem meets60 : Meets Try.prog 60 g60 :=
  meets_of (C := c60 FUEL) (ann := an60) (mkC_ok (gs := [(79, g79)]) (is := []) (mt := mtL) tysOK elemOK ⟨meets79, trivial⟩ trivial mtOK FUEL) mixed Try.func60 (by kernel_rfl) (by kernel_rfl) (by kernel_rfl) (of_decide_eq_true (by kernel_rfl)) (fun p => p.1.1) (fun _ _ => ⟨rfl, rfl⟩) ev60
def c24 (N : Nat) : Cx := mkC tyL [(59, g59), (60, g60)] [] mtL N
def g24 : Sig := ⟨(.cons (.pure (.int .i64)) (.cons (.pure .str) (.cons (.pure .str) .nl))), (.cons (.pure (.arr 128 (.int .u64))) .nl), (List Int), fun x => m_ticketlineref14_Empty x.1 x.2.1 x.2.2.1, fun _ y => (y, ()), fun _ y => ((), ((), ((), ())))⟩
def an24 : Nat → Ann := mkA []
theorem ev24 : ∀ x : g24.ps.den, evalFn (c24 FUEL) an24 Try.f24 (codeOf Try.f24) g24 x (fun p => p.1.1) = g24.m x := by
  intro x
  obtain ⟨x0, x1, x2, xu⟩ := x
  show _ = _
  kernel_rfl
theorem meets24 : Meets Try.prog 24 g24 :=
  meets_of (C := c24 FUEL) (ann := an24) (mkC_ok (gs := [(59, g59), (60, g60)]) (is := []) (mt := mtL) tysOK elemOK ⟨meets59, meets60, trivial⟩ trivial mtOK FUEL) mixed Try.func24 (by kernel_rfl) (by kernel_rfl) (by kernel_rfl) (of_decide_eq_true (by kernel_rfl)) (fun p => p.1.1) (fun _ _ => ⟨rfl, rfl⟩) ev24
noncomputable def c14 (N : Nat) : Cx := mkC tyL [(43, g43), (49, g49), (51, g51)] [(45, i45), (48, i48), (50, i50)] mtL N
def g14 : Sig := ⟨(.cons (.ptr (.cons (.cons (.ptr (.cons (.own (.int .u64)) .nl)) .nl) .nl)) (.cons (.pure (.arr 128 (.int .u64))) .nl)), (.cons (.pure (.int .i64)) (.cons (.pure (.int .i64)) .nl)), (Int × Int × ((((List Int) × Unit) × Unit) × Unit)), fun x => m_arena_Arena_Alloc x.1 x.2.1, fun _ y => (y.1, (y.2.1, ())), fun _ y => (y.2.2, ((), ()))⟩
def an14 : Nat → Ann := mkA []
theorem ev14 : ∀ x : g14.ps.den, evalFn (c14 FUEL) an14 Try.f14 (codeOf Try.f14) g14 x (fun p => (p.1.1, p.1.2.1, p.2.1)) = g14.m x := by
  intro x
  obtain ⟨x0, x1, xu⟩ := x
  show _ = _
  kernel_rfl
theorem meets14 : Meets Try.prog 14 g14 :=
  meets_of (C := c14 FUEL) (ann := an14) (mkC_ok (gs := [(43, g43), (49, g49), (51, g51)]) (is := [(45, i45), (48, i48), (50, i50)]) (mt := mtL) tysOK elemOK ⟨meets43, meets49, meets51, trivial⟩ ⟨inl45, inl48, inl50, trivial⟩ mtOK FUEL) mixed Try.func14 (by kernel_rfl) (by kernel_rfl) (by kernel_rfl) (of_decide_eq_true (by kernel_rfl)) (fun p => (p.1.1, p.1.2.1, p.2.1)) (fun _ _ => ⟨rfl, rfl⟩) ev14
def c25 (N : Nat) : Cx := mkC tyL [(14, g14)] [] mtL N
def g25 : Sig := ⟨(.cons (.ptr (.cons (.cons (.ptr (.cons (.own (.int .u64)) .nl)) .nl) .nl)) (.cons (.pure (.arr 128 (.int .u64))) (.cons (.pure (.int .i64)) (.cons (.pure (.int .i64)) .nl)))), (.cons (.pure .bool) .nl), (Bool × ((((List Int) × Unit) × Unit) × Unit)), fun x => m_ticketlinelaw20_allocs x.1 x.2.1 x.2.2.1 x.2.2.2.1, fun _ y => (y.1, ()), fun _ y => (y.2, ((), ((), ((), ()))))⟩
def an25 : Nat → Ann := mkA []
theorem ev25 : ∀ x : g25.ps.den, evalFn (c25 FUEL) an25 Try.f25 (codeOf Try.f25) g25 x (fun p => (p.1.1, p.2.1)) = g25.m x := by
  intro x
  obtain ⟨x0, x1, x2, x3, xu⟩ := x
  show _ = _
  kernel_rfl
theorem meets25 : Meets Try.prog 25 g25 :=
  meets_of (C := c25 FUEL) (ann := an25) (mkC_ok (gs := [(14, g14)]) (is := []) (mt := mtL) tysOK elemOK ⟨meets14, trivial⟩ trivial mtOK FUEL) mixed Try.func25 (by kernel_rfl) (by kernel_rfl) (by kernel_rfl) (of_decide_eq_true (by kernel_rfl)) (fun p => (p.1.1, p.2.1)) (fun _ _ => ⟨rfl, rfl⟩) ev25
noncomputable def c36 (N : Nat) : Cx := mkC tyL [(52, g52)] [(45, i45), (48, i48)] mtL N
def g36 : Sig := ⟨(.cons (.ptr (.cons (.cons (.ptr (.cons (.own (.int .u64)) .nl)) .nl) .nl)) (.cons (.pure (.int .i64)) .nl)), (.cons (.pure (.int .i64)) .nl), (Int × ((((List Int) × Unit) × Unit) × Unit)), fun x => m_arena_Arena_SetRoot x.1 x.2.1, fun _ y => (y.1, ()), fun _ y => (y.2, ((), ()))⟩
def an36 : Nat → Ann := mkA []
theorem ev36 : ∀ x : g36.ps.den, evalFn (c36 FUEL) an36 Try.f36 (codeOf Try.f36) g36 x (fun p => (p.1.1, p.2.1)) = g36.m x := by
  intro x
  obtain ⟨x0, x1, xu⟩ := x
  show _ = _
  kernel_rfl
theorem meets36 : Meets Try.prog 36 g36 :=
  meets_of (C := c36 FUEL) (ann := an36) (mkC_ok (gs := [(52, g52)]) (is := [(45, i45), (48, i48)]) (mt := mtL) tysOK elemOK ⟨meets52, trivial⟩ ⟨inl45, inl48, trivial⟩ mtOK FUEL) mixed Try.func36 (by kernel_rfl) (by kernel_rfl) (by kernel_rfl) (of_decide_eq_true (by kernel_rfl)) (fun p => (p.1.1, p.2.1)) (fun _ _ => ⟨rfl, rfl⟩) ev36
noncomputable def c16 (N : Nat) : Cx := mkC tyL [(51, g51), (52, g52)] [(45, i45), (50, i50)] mtL N
def g16 : Sig := ⟨(.cons (.ptr (.cons (.cons (.ptr (.cons (.own (.int .u64)) .nl)) .nl) .nl)) (.cons (.pure (.int .i64)) .nl)), (.cons (.pure (.int .i64)) (.cons (.pure (.int .i64)) .nl)), (Int × Int × ((((List Int) × Unit) × Unit) × Unit)), fun x => m_arena_Arena_Defer x.1 x.2.1, fun _ y => (y.1, (y.2.1, ())), fun _ y => (y.2.2, ((), ()))⟩
def an16 : Nat → Ann := mkA []
theorem ev16 : ∀ x : g16.ps.den, evalFn (c16 FUEL) an16 Try.f16 (codeOf Try.f16) g16 x (fun p => (p.1.1, p.1.2.1, p.2.1)) = g16.m x := by
  intro x
  obtain ⟨x0, x1, xu⟩ := x
  show _ = _
  kernel_rfl
theorem meets16 : Meets Try.prog 16 g16 :=
  meets_of (C := c16 FUEL) (ann := an16) (mkC_ok (gs := [(51, g51), (52, g52)]) (is := [(45, i45), (50, i50)]) (mt := mtL) tysOK elemOK ⟨meets51, meets52, trivial⟩ ⟨inl45, inl50, trivial⟩ mtOK FUEL) mixed Try.func16 (by kernel_rfl) (by kernel_rfl) (by kernel_rfl) (of_decide_eq_true (by kernel_rfl)) (fun p => (p.1.1, p.1.2.1, p.2.1)) (fun _ _ => ⟨rfl, rfl⟩) ev16
def c38 (N : Nat) : Cx := mkC tyL [(16, g16)] [] mtL N
def g38 : Sig := ⟨(.cons (.ptr (.cons (.cons (.ptr (.cons (.own (.int .u64)) .nl)) .nl) .nl)) (.cons (.pure (.int .i64)) (.cons (.pure (.int .i64)) (.cons (.pure (.int .i64)) .nl)))), (.cons (.pure .bool) .nl), (Bool × ((((List Int) × Unit) × Unit) × Unit)), fun x => m_ticketlinelaw20_defers x.1 x.2.1 x.2.2.1 x.2.2.2.1, fun _ y => (y.1, ()), fun _ y => (y.2, ((), ((), ((), ()))))⟩
def an38 : Nat → Ann := mkA []
theorem ev38 : ∀ x : g38.ps.den, evalFn (c38 FUEL) an38 Try.f38 (codeOf Try.f38) g38 x (fun p => (p.1.1, p.2.1)) = g38.m x := by
  intro x
  obtain ⟨x0, x1, x2, x3, xu⟩ := x
  show _ = _
  kernel_rfl
theorem meets38 : Meets Try.prog 38 g38 :=
  meets_of (C := c38 FUEL) (ann := an38) (mkC_ok (gs := [(16, g16)]) (is := []) (mt := mtL) tysOK elemOK ⟨meets16, trivial⟩ trivial mtOK FUEL) mixed Try.func38 (by kernel_rfl) (by kernel_rfl) (by kernel_rfl) (of_decide_eq_true (by kernel_rfl)) (fun p => (p.1.1, p.2.1)) (fun _ _ => ⟨rfl, rfl⟩) ev38
noncomputable def c17 (N : Nat) : Cx := mkC tyL [(43, g43), (53, g53), (54, g54)] [(45, i45), (48, i48), (50, i50)] mtL N
def g17 : Sig := ⟨(.cons (.ptr (.cons (.cons (.ptr (.cons (.own (.int .u64)) .nl)) .nl) .nl)) (.cons (.pure (.int .i64)) .nl)), (.cons (.pure (.int .i64)) (.cons (.pure (.int .i64)) .nl)), (Int × Int × ((((List Int) × Unit) × Unit) × Unit)), fun x => m_arena_Arena_Reclaim x.1 x.2.1, fun _ y => (y.1, (y.2.1, ())), fun _ y => (y.2.2, ((), ()))⟩
def an17 : Nat → Ann := mkA [(8, ⟨[0, 1, 8, 9, 27, 28, 29], [], [200770], false, [(100000, [.fld 0, .fld 0], (.ptr (.cons (.own (.int .u64)) .nl)), 2001600000)]⟩)]
noncomputable def k17 (N : Nat) : Ex → St → Option (Int × Int × ((((List Int) × Unit) × Unit) × Unit)) := finK (c17 N) Try.f17 g17 (.cons (.ref 100000 []) (.cons .top .nl)) (fun p => (p.1.1, p.1.2.1, p.2.1))
def a17 : Nat → Ann := annP [100000] an17
def h17_0 (u0_0 : Int) (u0_1 : Int) (u0_2 : Int) (u0_3 : Int) (u0_4 : Int) (u0_5 : (List Int)) (u0_6 : (List Int)) : St := ⟨65, [(0, (.ref 100000 [])), (1, (.int .i64 u0_0)), (8, (.int .i64 u0_1)), (9, (.int .i64 u0_2)), (27, (.full 200770)), (28, (.int .i64 u0_3)), (29, (.int .i64 u0_4))], [(100000, (.cons (.cons (.ref 2001600000 []) .nl) .nl)), (200770, (.bk (.int .i64) u0_5)), (2001600000, (.cons (.full 2001600001) .nl)), (2001600001, (.bk (.int .u64) u0_6))]⟩
theorem t17_0 : ∀ (N : Nat) (n : Nat) (u0_0 : Int) (u0_1 : Int) (u0_2 : Int) (u0_3 : Int) (u0_4 : Int) (u0_5 : (List Int)) (u0_6 : (List Int)), loopAt (c17 N) a17 [1, 1, 1, 1, 0, 1, 0] [] (codeOf Try.f17) (k17 N) n (h17_0 u0_0 u0_1 u0_2 u0_3 u0_4 u0_5 u0_6) = m_arena_Arena_Reclaim_l0 N n u0_0 u0_1 u0_2 u0_3 u0_4 u0_5 u0_6 := by
  intro N n
  induction n with
  | zero => intro u0_0 u0_1 u0_2 u0_3 u0_4 u0_5 u0_6; kernel_rfl
  | succ n ih =>
    intro u0_0 u0_1 u0_2 u0_3 u0_4 u0_5 u0_6
    have e : loopAt (c17 N) a17 [1, 1, 1, 1, 0, 1, 0] [] (codeOf Try.f17) (k17 N) (n + 1) (h17_0 u0_0 u0_1 u0_2 u0_3 u0_4 u0_5 u0_6) = m_arena_Arena_Reclaim_l0_b (fun w0 w1 w2 w3 w4 w5 w6 => loopAt (c17 N) a17 [1, 1, 1, 1, 0, 1, 0] [] (codeOf Try.f17) (k17 N) n (h17_0 w0 w1 w2 w3 w4 w5 w6)) u0_0 u0_1 u0_2 u0_3 u0_4 u0_5 u0_6 := by kernel_rfl
    refine e.trans ?_
    have es : (fun w0 w1 w2 w3 w4 w5 w6 => loopAt (c17 N) a17 [1, 1, 1, 1, 0, 1, 0] [] (codeOf Try.f17) (k17 N) n (h17_0 w0 w1 w2 w3 w4 w5 w6)) = m_arena_Arena_Reclaim_l0 N n := by
      funext w0 w1 w2 w3 w4 w5 w6; exact ih w0 w1 w2 w3 w4 w5 w6
    rw [es]
    rw [m_arena_Arena_Reclaim_l0]
theorem ew17 : ∀ (N : Nat) (x : g17.ps.den), evalFn (c17 N) an17 Try.f17 (codeOf Try.f17) g17 x (fun p => (p.1.1, p.1.2.1, p.2.1)) = m_arena_Arena_Reclaim_a (m_arena_Arena_Reclaim_l0 N N) x.1 x.2.1 := by
  intro N
  intro x
  obtain ⟨x0, x1, xu⟩ := x
  have e : evalFn (c17 N) an17 Try.f17 (codeOf Try.f17) g17 (x0, x1, xu) (fun p => (p.1.1, p.1.2.1, p.2.1)) = m_arena_Arena_Reclaim_a (fun w0 w1 w2 w3 w4 w5 w6 => loopAt (c17 N) a17 [1, 1, 1, 1, 0, 1, 0] [] (codeOf Try.f17) (k17 N) N (h17_0 w0 w1 w2 w3 w4 w5 w6)) x0 x1 := by kernel_rfl
  refine e.trans ?_
  have e0 : (fun w0 w1 w2 w3 w4 w5 w6 => loopAt (c17 N) a17 [1, 1, 1, 1, 0, 1, 0] [] (codeOf Try.f17) (k17 N) N (h17_0 w0 w1 w2 w3 w4 w5 w6)) = m_arena_Arena_Reclaim_l0 N N := by
    funext w0 w1 w2 w3 w4 w5 w6; exact t17_0 N N w0 w1 w2 w3 w4 w5 w6
  rw [e0]
theorem ev17 : ∀ x : g17.ps.den, evalFn (c17 FUEL) an17 Try.f17 (codeOf Try.f17) g17 x (fun p => (p.1.1, p.1.2.1, p.2.1)) = g17.m x := fun x => ew17 FUEL x
theorem meets17 : Meets Try.prog 17 g17 :=
  meets_of (C := c17 FUEL) (ann := an17) (mkC_ok (gs := [(43, g43), (53, g53), (54, g54)]) (is := [(45, i45), (48, i48), (50, i50)]) (mt := mtL) tysOK elemOK ⟨meets43, meets53, meets54, trivial⟩ ⟨inl45, inl48, inl50, trivial⟩ mtOK FUEL) mixed Try.func17 (by kernel_rfl) (by kernel_rfl) (by kernel_rfl) (of_decide_eq_true (by kernel_rfl)) (fun p => (p.1.1, p.1.2.1, p.2.1)) (fun _ _ => ⟨rfl, rfl⟩) ev17
def c39 (N : Nat) : Cx := mkC tyL [(17, g17)] [] mtL N
def g39 : Sig := ⟨(.cons (.ptr (.cons (.cons (.ptr (.cons (.own (.int .u64)) .nl)) .nl) .nl)) (.cons (.pure (.int .i64)) (.cons (.pure (.int .i64)) (.cons (.pure (.int .i64)) .nl)))), (.cons (.pure .bool) .nl), (Bool × ((((List Int) × Unit) × Unit) × Unit)), fun x => m_ticketlinelaw20_reclaims x.1 x.2.1 x.2.2.1 x.2.2.2.1, fun _ y => (y.1, ()), fun _ y => (y.2, ((), ((), ((), ()))))⟩
def an39 : Nat → Ann := mkA []
theorem ev39 : ∀ x : g39.ps.den, evalFn (c39 FUEL) an39 Try.f39 (codeOf Try.f39) g39 x (fun p => (p.1.1, p.2.1)) = g39.m x := by
  intro x
  obtain ⟨x0, x1, x2, x3, xu⟩ := x
  show _ = _
  kernel_rfl
theorem meets39 : Meets Try.prog 39 g39 :=
  meets_of (C := c39 FUEL) (ann := an39) (mkC_ok (gs := [(17, g17)]) (is := []) (mt := mtL) tysOK elemOK ⟨meets17, trivial⟩ trivial mtOK FUEL) mixed Try.func39 (by kernel_rfl) (by kernel_rfl) (by kernel_rfl) (of_decide_eq_true (by kernel_rfl)) (fun p => (p.1.1, p.2.1)) (fun _ _ => ⟨rfl, rfl⟩) ev39
noncomputable def c19 (N : Nat) : Cx := mkC tyL [(43, g43)] [(50, i50), (55, i55)] mtL N
def g19 : Sig := ⟨(.cons (.ptr (.cons (.cons (.ptr (.cons (.own (.int .u64)) .nl)) .nl) .nl)) (.cons (.pure (.int .i64)) .nl)), (.cons (.pure (.arr 128 (.int .u64))) (.cons (.pure (.int .i64)) .nl)), ((List Int) × Int × ((((List Int) × Unit) × Unit) × Unit)), fun x => m_arena_Arena_Read x.1 x.2.1, fun _ y => (y.1, (y.2.1, ())), fun _ y => (y.2.2, ((), ()))⟩
def an19 : Nat → Ann := mkA [(6, ⟨[0, 1, 4, 6, 16], [], [4, 6, 1011200448], false, [(1011200448, [.fld 0], (.own (.int .u64)), 18179207168)]⟩)]
noncomputable def k19 (N : Nat) : Ex → St → Option ((List Int) × Int × ((((List Int) × Unit) × Unit) × Unit)) := finK (c19 N) Try.f19 g19 (.cons (.ref 100000 []) (.cons .top .nl)) (fun p => (p.1.1, p.1.2.1, p.2.1))
def a19 : Nat → Ann := annP [100000] an19
def h19_0 (u0_0 : Int) (u0_1 : Int) (u0_2 : (List Int)) (u0_3 : (List Int)) (u0_4 : (List Int)) : St := ⟨31, [(0, (.ref 100000 [])), (1, (.int .i64 u0_0)), (4, (.ref 4 [])), (6, (.ref 6 [])), (16, (.int .i64 u0_1))], [(100000, (.cons (.cons (.ref 1011200448 []) .nl) .nl)), (4, (.arr (.int .u64) 128 u0_2)), (6, (.arr (.int .u64) 128 u0_3)), (1011200448, (.cons (.full 18179207168) .nl)), (18179207168, (.bk (.int .u64) u0_4))]⟩
theorem t19_0 : ∀ (N : Nat) (n : Nat) (u0_0 : Int) (u0_1 : Int) (u0_2 : (List Int)) (u0_3 : (List Int)) (u0_4 : (List Int)), loopAt (c19 N) a19 [1, 1, 1, 0, 1, 0] [] (codeOf Try.f19) (k19 N) n (h19_0 u0_0 u0_1 u0_2 u0_3 u0_4) = m_arena_Arena_Read_l0 N n u0_0 u0_1 u0_2 u0_3 u0_4 := by
  intro N n
  induction n with
  | zero => intro u0_0 u0_1 u0_2 u0_3 u0_4; kernel_rfl
  | succ n ih =>
    intro u0_0 u0_1 u0_2 u0_3 u0_4
    have e : loopAt (c19 N) a19 [1, 1, 1, 0, 1, 0] [] (codeOf Try.f19) (k19 N) (n + 1) (h19_0 u0_0 u0_1 u0_2 u0_3 u0_4) = m_arena_Arena_Read_l0_b (fun w0 w1 w2 w3 w4 => loopAt (c19 N) a19 [1, 1, 1, 0, 1, 0] [] (codeOf Try.f19) (k19 N) n (h19_0 w0 w1 w2 w3 w4)) u0_0 u0_1 u0_2 u0_3 u0_4 := by kernel_rfl
    refine e.trans ?_
    have es : (fun w0 w1 w2 w3 w4 => loopAt (c19 N) a19 [1, 1, 1, 0, 1, 0] [] (codeOf Try.f19) (k19 N) n (h19_0 w0 w1 w2 w3 w4)) = m_arena_Arena_Read_l0 N n := by
      funext w0 w1 w2 w3 w4; exact ih w0 w1 w2 w3 w4
    rw [es]
    rw [m_arena_Arena_Read_l0]
theorem ew19 : ∀ (N : Nat) (x : g19.ps.den), evalFn (c19 N) an19 Try.f19 (codeOf Try.f19) g19 x (fun p => (p.1.1, p.1.2.1, p.2.1)) = m_arena_Arena_Read_a (m_arena_Arena_Read_l0 N N) x.1 x.2.1 := by
  intro N
  intro x
  obtain ⟨x0, x1, xu⟩ := x
  have e : evalFn (c19 N) an19 Try.f19 (codeOf Try.f19) g19 (x0, x1, xu) (fun p => (p.1.1, p.1.2.1, p.2.1)) = m_arena_Arena_Read_a (fun w0 w1 w2 w3 w4 => loopAt (c19 N) a19 [1, 1, 1, 0, 1, 0] [] (codeOf Try.f19) (k19 N) N (h19_0 w0 w1 w2 w3 w4)) x0 x1 := by kernel_rfl
  refine e.trans ?_
  have e0 : (fun w0 w1 w2 w3 w4 => loopAt (c19 N) a19 [1, 1, 1, 0, 1, 0] [] (codeOf Try.f19) (k19 N) N (h19_0 w0 w1 w2 w3 w4)) = m_arena_Arena_Read_l0 N N := by
    funext w0 w1 w2 w3 w4; exact t19_0 N N w0 w1 w2 w3 w4
  rw [e0]
theorem ev19 : ∀ x : g19.ps.den, evalFn (c19 FUEL) an19 Try.f19 (codeOf Try.f19) g19 x (fun p => (p.1.1, p.1.2.1, p.2.1)) = g19.m x := fun x => ew19 FUEL x
theorem meets19 : Meets Try.prog 19 g19 :=
  meets_of (C := c19 FUEL) (ann := an19) (mkC_ok (gs := [(43, g43)]) (is := [(50, i50), (55, i55)]) (mt := mtL) tysOK elemOK ⟨meets43, trivial⟩ ⟨inl50, inl55, trivial⟩ mtOK FUEL) mixed Try.func19 (by kernel_rfl) (by kernel_rfl) (by kernel_rfl) (of_decide_eq_true (by kernel_rfl)) (fun p => (p.1.1, p.1.2.1, p.2.1)) (fun _ _ => ⟨rfl, rfl⟩) ev19
def c40 (N : Nat) : Cx := mkC tyL [(19, g19)] [] mtL N
def g40 : Sig := ⟨(.cons (.ptr (.cons (.cons (.ptr (.cons (.own (.int .u64)) .nl)) .nl) .nl)) (.cons (.pure (.int .i64)) (.cons (.pure (.arr 128 (.int .u64))) (.cons (.pure (.int .i64)) .nl)))), (.cons (.pure .bool) .nl), (Bool × ((((List Int) × Unit) × Unit) × Unit)), fun x => m_ticketlinelaw20_reads x.1 x.2.1 x.2.2.1 x.2.2.2.1, fun _ y => (y.1, ()), fun _ y => (y.2, ((), ((), ((), ()))))⟩
def an40 : Nat → Ann := mkA []
theorem ev40 : ∀ x : g40.ps.den, evalFn (c40 FUEL) an40 Try.f40 (codeOf Try.f40) g40 x (fun p => (p.1.1, p.2.1)) = g40.m x := by
  intro x
  obtain ⟨x0, x1, x2, x3, xu⟩ := x
  show _ = _
  kernel_rfl
theorem meets40 : Meets Try.prog 40 g40 :=
  meets_of (C := c40 FUEL) (ann := an40) (mkC_ok (gs := [(19, g19)]) (is := []) (mt := mtL) tysOK elemOK ⟨meets19, trivial⟩ trivial mtOK FUEL) mixed Try.func40 (by kernel_rfl) (by kernel_rfl) (by kernel_rfl) (of_decide_eq_true (by kernel_rfl)) (fun p => (p.1.1, p.2.1)) (fun _ _ => ⟨rfl, rfl⟩) ev40

end Go.Proofs.Ytbmdoalneeeonaa
