/- A part of the proof of a statement of this seat: the functions keep their promises. No condition. -/
import Derived.Test.YtiknbfledplnlaaPN33a
set_option linter.unusedVariables false
set_option maxRecDepth 100000
namespace Go.Proofs.Ytiknbfledplnlaa
open Go Go.Ev Go.Ev.M Go.Proofs
def c61 (N : Nat) : Cx := mkC tyL [(69, g69), (70, g70), (71, g71), (72, g72)] [] mtL N
def g61 : Sig := ⟨(.cons (.rptr (.arr 128 (.int .u64))) .nl), (.cons (.own (.pair .str (.pair .str .nl))) (.cons (.pure .bool) .nl)), ((List (ByteArray × (ByteArray × Unit))) × Bool), fun x => m_slot_list x.1, fun _ y => (y.1, (y.2, ())), fun _ y => ((), ())⟩
def an61 : Nat → Ann := mkA [(6, ⟨[0, 5, 18, 19], [(4, (.own (.pair .str (.pair .str .nl))), 300004)], [5], false, []⟩), (15, ⟨[0, 4, 5, 7, 8, 10, 18, 19], [], [300004, 5, 7, 8], false, []⟩)]
noncomputable def k61 (N : Nat) : Ex → St → Option ((List (ByteArray × (ByteArray × Unit))) × Bool) := finK (c61 N) Try.f61 g61 (.cons .top .nl) (fun p => (p.1.1, p.1.2.1))
def a61 : Nat → Ann := annP [] an61
def h61_1 (u1_0 : (List Int)) (u1_1 : Int) (u1_2 : Int) (u1_3 : Int) (u1_4 : (List (ByteArray × (ByteArray × Unit)))) (u1_5 : (List Bool)) (u1_6 : Int) (u1_7 : Int) (u1_8 : Int) (u1_9 : Int) (u1_10 : Int) (u1_11 : ByteArray) (u1_12 : ByteArray) : St := ⟨85, [(0, (.pref (.arr 128 (.int .u64)) u1_0)), (4, (.full 300004)), (5, (.ref 5 [])), (7, (.ref 7 [])), (8, (.ref 8 [])), (10, (.int .i64 u1_1)), (18, (.int .i64 u1_2)), (19, (.int .i64 u1_3))], [(300004, (.bk (.pair .str (.pair .str .nl)) u1_4)), (5, (.arr .bool 128 u1_5)), (7, (.cons (.int .i64 u1_6) (.cons (.int .i64 u1_7) (.cons (.int .i64 u1_8) (.cons (.int .i64 u1_9) (.cons (.int .i64 u1_10) .nl)))))), (8, (.cons (.str u1_11) (.cons (.str u1_12) .nl)))]⟩
def h61_0 (u0_0 : (List Int)) (u0_1 : Int) (u0_2 : Int) (u0_3 : (List Bool)) (u0_4 : (List (ByteArray × (ByteArray × Unit)))) : St := ⟨85, [(4, .full 300004), (0, (.pref (.arr 128 (.int .u64)) u0_0)), (5, (.ref 5 [])), (18, (.int .i64 u0_1)), (19, (.int .i64 u0_2))], [(5, (.arr .bool 128 u0_3)), (300004, (.bk (.pair .str (.pair .str .nl)) u0_4))]⟩
theorem t61_1 : ∀ (N : Nat) (m0 : Nat) (n : Nat) (u1_0 : (List Int)) (u1_1 : Int) (u1_2 : Int) (u1_3 : Int) (u1_4 : (List (ByteArray × (ByteArray × Unit)))) (u1_5 : (List Bool)) (u1_6 : Int) (u1_7 : Int) (u1_8 : Int) (u1_9 : Int) (u1_10 : Int) (u1_11 : ByteArray) (u1_12 : ByteArray), loopAt (c61 N) a61 [1, 1, 1, 1, 0, 1, 0, 0, 1, 1, 0, 0, 1, 1, 1, 1, 1, 0, 1, 0] [m0] (codeOf Try.f61) (k61 N) n (h61_1 u1_0 u1_1 u1_2 u1_3 u1_4 u1_5 u1_6 u1_7 u1_8 u1_9 u1_10 u1_11 u1_12) = m_slot_list_l1 N (fun w0 w1 w2 w3 w4 => loopAt (c61 N) a61 [1, 1, 1, 1, 0, 1, 0] [] (codeOf Try.f61) (k61 N) m0 (h61_0 w0 w1 w2 w3 w4)) n u1_0 u1_1 u1_2 u1_3 u1_4 u1_5 u1_6 u1_7 u1_8 u1_9 u1_10 u1_11 u1_12 := by
  intro N m0 n
  induction n with
  | zero => intro u1_0 u1_1 u1_2 u1_3 u1_4 u1_5 u1_6 u1_7 u1_8 u1_9 u1_10 u1_11 u1_12; kernel_rfl
  | succ n ih =>
    intro u1_0 u1_1 u1_2 u1_3 u1_4 u1_5 u1_6 u1_7 u1_8 u1_9 u1_10 u1_11 u1_12
    have e : loopAt (c61 N) a61 [1, 1, 1, 1, 0, 1, 0, 0, 1, 1, 0, 0, 1, 1, 1, 1, 1, 0, 1, 0] [m0] (codeOf Try.f61) (k61 N) (n + 1) (h61_1 u1_0 u1_1 u1_2 u1_3 u1_4 u1_5 u1_6 u1_7 u1_8 u1_9 u1_10 u1_11 u1_12) = m_slot_list_l1_b (fun w0 w1 w2 w3 w4 => loopAt (c61 N) a61 [1, 1, 1, 1, 0, 1, 0] [] (codeOf Try.f61) (k61 N) m0 (h61_0 w0 w1 w2 w3 w4)) (fun w0 w1 w2 w3 w4 w5 w6 w7 w8 w9 w10 w11 w12 => loopAt (c61 N) a61 [1, 1, 1, 1, 0, 1, 0, 0, 1, 1, 0, 0, 1, 1, 1, 1, 1, 0, 1, 0] [m0] (codeOf Try.f61) (k61 N) n (h61_1 w0 w1 w2 w3 w4 w5 w6 w7 w8 w9 w10 w11 w12)) u1_0 u1_1 u1_2 u1_3 u1_4 u1_5 u1_6 u1_7 u1_8 u1_9 u1_10 u1_11 u1_12 := by kernel_rfl
    refine e.trans ?_
    have es : (fun w0 w1 w2 w3 w4 w5 w6 w7 w8 w9 w10 w11 w12 => loopAt (c61 N) a61 [1, 1, 1, 1, 0, 1, 0, 0, 1, 1, 0, 0, 1, 1, 1, 1, 1, 0, 1, 0] [m0] (codeOf Try.f61) (k61 N) n (h61_1 w0 w1 w2 w3 w4 w5 w6 w7 w8 w9 w10 w11 w12)) = m_slot_list_l1 N (fun w0 w1 w2 w3 w4 => loopAt (c61 N) a61 [1, 1, 1, 1, 0, 1, 0] [] (codeOf Try.f61) (k61 N) m0 (h61_0 w0 w1 w2 w3 w4)) n := by
      funext w0 w1 w2 w3 w4 w5 w6 w7 w8 w9 w10 w11 w12; exact ih w0 w1 w2 w3 w4 w5 w6 w7 w8 w9 w10 w11 w12
    rw [es]
    rw [m_slot_list_l1]
theorem t61_0 : ∀ (N : Nat) (n : Nat) (u0_0 : (List Int)) (u0_1 : Int) (u0_2 : Int) (u0_3 : (List Bool)) (u0_4 : (List (ByteArray × (ByteArray × Unit)))), loopAt (c61 N) a61 [1, 1, 1, 1, 0, 1, 0] [] (codeOf Try.f61) (k61 N) n (h61_0 u0_0 u0_1 u0_2 u0_3 u0_4) = m_slot_list_l0 N n u0_0 u0_1 u0_2 u0_3 u0_4 := by
  intro N n
  induction n with
  | zero => intro u0_0 u0_1 u0_2 u0_3 u0_4; kernel_rfl
  | succ n ih =>
    intro u0_0 u0_1 u0_2 u0_3 u0_4
    have e : loopAt (c61 N) a61 [1, 1, 1, 1, 0, 1, 0] [] (codeOf Try.f61) (k61 N) (n + 1) (h61_0 u0_0 u0_1 u0_2 u0_3 u0_4) = m_slot_list_l0_b (fun w0 w1 w2 w3 w4 => loopAt (c61 N) a61 [1, 1, 1, 1, 0, 1, 0] [] (codeOf Try.f61) (k61 N) n (h61_0 w0 w1 w2 w3 w4)) (fun w0 w1 w2 w3 w4 w5 w6 w7 w8 w9 w10 w11 w12 => loopAt (c61 N) a61 [1, 1, 1, 1, 0, 1, 0, 0, 1, 1, 0, 0, 1, 1, 1, 1, 1, 0, 1, 0] [n] (codeOf Try.f61) (k61 N) N (h61_1 w0 w1 w2 w3 w4 w5 w6 w7 w8 w9 w10 w11 w12)) u0_0 u0_1 u0_2 u0_3 u0_4 := by kernel_rfl
    refine e.trans ?_
    have e1 : (fun w0 w1 w2 w3 w4 w5 w6 w7 w8 w9 w10 w11 w12 => loopAt (c61 N) a61 [1, 1, 1, 1, 0, 1, 0, 0, 1, 1, 0, 0, 1, 1, 1, 1, 1, 0, 1, 0] [n] (codeOf Try.f61) (k61 N) N (h61_1 w0 w1 w2 w3 w4 w5 w6 w7 w8 w9 w10 w11 w12)) = m_slot_list_l1 N (fun w0 w1 w2 w3 w4 => loopAt (c61 N) a61 [1, 1, 1, 1, 0, 1, 0] [] (codeOf Try.f61) (k61 N) n (h61_0 w0 w1 w2 w3 w4)) N := by
      funext w0 w1 w2 w3 w4 w5 w6 w7 w8 w9 w10 w11 w12; exact t61_1 N n N w0 w1 w2 w3 w4 w5 w6 w7 w8 w9 w10 w11 w12
    rw [e1]
    have es : (fun w0 w1 w2 w3 w4 => loopAt (c61 N) a61 [1, 1, 1, 1, 0, 1, 0] [] (codeOf Try.f61) (k61 N) n (h61_0 w0 w1 w2 w3 w4)) = m_slot_list_l0 N n := by
      funext w0 w1 w2 w3 w4; exact ih w0 w1 w2 w3 w4
    rw [es]
    rw [m_slot_list_l0]
theorem ew61 : ∀ (N : Nat) (x : g61.ps.den), evalFn (c61 N) an61 Try.f61 (codeOf Try.f61) g61 x (fun p => (p.1.1, p.1.2.1)) = m_slot_list_a (m_slot_list_l0 N N) x.1 := by
  intro N
  intro x
  obtain ⟨x0, xu⟩ := x
  have e : evalFn (c61 N) an61 Try.f61 (codeOf Try.f61) g61 (x0, xu) (fun p => (p.1.1, p.1.2.1)) = m_slot_list_a (fun w0 w1 w2 w3 w4 => loopAt (c61 N) a61 [1, 1, 1, 1, 0, 1, 0] [] (codeOf Try.f61) (k61 N) N (h61_0 w0 w1 w2 w3 w4)) x0 := by kernel_rfl
  refine e.trans ?_
  have e0 : (fun w0 w1 w2 w3 w4 => loopAt (c61 N) a61 [1, 1, 1, 1, 0, 1, 0] [] (codeOf Try.f61) (k61 N) N (h61_0 w0 w1 w2 w3 w4)) = m_slot_list_l0 N N := by
    funext w0 w1 w2 w3 w4; exact t61_0 N N w0 w1 w2 w3 w4
  rw [e0]
theorem ev61 : ∀ x : g61.ps.den, evalFn (c61 FUEL) an61 Try.f61 (codeOf Try.f61) g61 x (fun p => (p.1.1, p.1.2.1)) = g61.m x := fun x => ew61 FUEL x
theorem meets61 : Meets Try.prog 61 g61 :=
  meets_of (C := c61 FUEL) (ann := an61) (mkC_ok (gs := [(69, g69), (70, g70), (71, g71), (72, g72)]) (is := []) (mt := mtL) tysOK elemOK ⟨meets69, meets70, meets71, meets72, trivial⟩ trivial mtOK FUEL) mixed Try.func61 (by kernel_rfl) (by kernel_rfl) (by kernel_rfl) (of_decide_eq_true (by kernel_rfl)) (fun p => (p.1.1, p.1.2.1)) (fun _ _ => ⟨rfl, rfl⟩) ev61
def c54 (N : Nat) : Cx := mkC tyL [(61, g61)] [] mtL N
def g54 : Sig := ⟨(.cons (.pure (.arr 128 (.int .u64))) .nl), (.cons (.pure .bool) .nl), Bool, fun x => m_slot_Valid x.1, fun _ y => (y, ()), fun _ y => ((), ())⟩
def an54 : Nat → Ann := mkA []
theorem ev54 : ∀ x : g54.ps.den, evalFn (c54 FUEL) an54 Try.f54 (codeOf Try.f54) g54 x (fun p => p.1.1) = g54.m x := by
  intro x
  obtain ⟨x0, xu⟩ := x
  show _ = _
  kernel_rfl
theorem meets54 : Meets Try.prog 54 g54 :=
  meets_of (C := c54 FUEL) (ann := an54) (mkC_ok (gs := [(61, g61)]) (is := []) (mt := mtL) tysOK elemOK ⟨meets61, trivial⟩ trivial mtOK FUEL) mixed Try.func54 (by kernel_rfl) (by kernel_rfl) (by kernel_rfl) (of_decide_eq_true (by kernel_rfl)) (fun p => p.1.1) (fun _ _ => ⟨rfl, rfl⟩) ev54
def c55 (N : Nat) : Cx := mkC tyL [(62, g62)] [] mtL N
noncomputable def i55 : List AV → Nat → Pg AV := inlPg (c55 0) Try.f55 (codeOf Try.f55)
theorem inl55 : Inlines Try.prog 55 i55 := inlines (C := c55 0) (mkC_ok (gs := [(62, g62)]) (is := []) (mt := mtL) tysOK elemOK ⟨meets62, trivial⟩ trivial mtOK 0) mixed Try.func55 (by kernel_rfl) (by kernel_rfl)
noncomputable def c56 (N : Nat) : Cx := mkC tyL [(49, g49)] [(50, i50)] mtL N
def g56 : Sig := ⟨(.cons (.ptr (.cons (.cons (.ptr (.cons (.own (.int .u64)) .nl)) .nl) .nl)) (.cons (.pure (.int .i64)) (.cons (.pure (.arr 128 (.int .u64))) .nl))), .nl, ((((List Int) × Unit) × Unit) × Unit), fun x => m_arena_Arena_put x.1 x.2.1 x.2.2.1, fun _ y => (), fun _ y => (y, ((), ((), ())))⟩
def an56 : Nat → Ann := mkA [(2, ⟨[0, 1, 5, 6], [], [5, 100001], false, [(100001, [.fld 0], (.own (.int .u64)), 2001600016)]⟩)]
noncomputable def k56 (N : Nat) : Ex → St → Option ((((List Int) × Unit) × Unit) × Unit) := finK (c56 N) Try.f56 g56 (.cons (.ref 100000 []) (.cons .top (.cons .top .nl))) (fun p => p.2.1)
def a56 : Nat → Ann := annP [100000] an56
def h56_0 (u0_0 : Int) (u0_1 : Int) (u0_2 : (List Int)) (u0_3 : (List Int)) : St := ⟨22, [(0, (.ref 100000 [])), (1, (.int .i64 u0_0)), (5, (.ref 5 [])), (6, (.int .i64 u0_1))], [(100000, (.cons (.cons (.ref 100001 []) .nl) .nl)), (5, (.arr (.int .u64) 128 u0_2)), (100001, (.cons (.full 2001600016) .nl)), (2001600016, (.bk (.int .u64) u0_3))]⟩
theorem t56_0 : ∀ (N : Nat) (n : Nat) (u0_0 : Int) (u0_1 : Int) (u0_2 : (List Int)) (u0_3 : (List Int)), loopAt (c56 N) a56 [1, 1, 0] [] (codeOf Try.f56) (k56 N) n (h56_0 u0_0 u0_1 u0_2 u0_3) = m_arena_Arena_put_l0 N n u0_0 u0_1 u0_2 u0_3 := by
  intro N n
  induction n with
  | zero => intro u0_0 u0_1 u0_2 u0_3; kernel_rfl
  | succ n ih =>
    intro u0_0 u0_1 u0_2 u0_3
    have e : loopAt (c56 N) a56 [1, 1, 0] [] (codeOf Try.f56) (k56 N) (n + 1) (h56_0 u0_0 u0_1 u0_2 u0_3) = m_arena_Arena_put_l0_b (fun w0 w1 w2 w3 => loopAt (c56 N) a56 [1, 1, 0] [] (codeOf Try.f56) (k56 N) n (h56_0 w0 w1 w2 w3)) u0_0 u0_1 u0_2 u0_3 := by kernel_rfl
    refine e.trans ?_
    have es : (fun w0 w1 w2 w3 => loopAt (c56 N) a56 [1, 1, 0] [] (codeOf Try.f56) (k56 N) n (h56_0 w0 w1 w2 w3)) = m_arena_Arena_put_l0 N n := by
      funext w0 w1 w2 w3; exact ih w0 w1 w2 w3
    rw [es]
    rw [m_arena_Arena_put_l0]
theorem ew56 : ∀ (N : Nat) (x : g56.ps.den), evalFn (c56 N) an56 Try.f56 (codeOf Try.f56) g56 x (fun p => p.2.1) = m_arena_Arena_put_a (m_arena_Arena_put_l0 N N) x.1 x.2.1 x.2.2.1 := by
  intro N
  intro x
  obtain ⟨x0, x1, x2, xu⟩ := x
  have e : evalFn (c56 N) an56 Try.f56 (codeOf Try.f56) g56 (x0, x1, x2, xu) (fun p => p.2.1) = m_arena_Arena_put_a (fun w0 w1 w2 w3 => loopAt (c56 N) a56 [1, 1, 0] [] (codeOf Try.f56) (k56 N) N (h56_0 w0 w1 w2 w3)) x0 x1 x2 := by kernel_rfl
  refine e.trans ?_
  have e0 : (fun w0 w1 w2 w3 => loopAt (c56 N) a56 [1, 1, 0] [] (codeOf Try.f56) (k56 N) N (h56_0 w0 w1 w2 w3)) = m_arena_Arena_put_l0 N N := by
    funext w0 w1 w2 w3; exact t56_0 N N w0 w1 w2 w3
  rw [e0]
theorem ev56 : ∀ x : g56.ps.den, evalFn (c56 FUEL) an56 Try.f56 (codeOf Try.f56) g56 x (fun p => p.2.1) = g56.m x := fun x => ew56 FUEL x
theorem meets56 : Meets Try.prog 56 g56 :=
  meets_of (C := c56 FUEL) (ann := an56) (mkC_ok (gs := [(49, g49)]) (is := [(50, i50)]) (mt := mtL) tysOK elemOK ⟨meets49, trivial⟩ ⟨inl50, trivial⟩ mtOK FUEL) mixed Try.func56 (by kernel_rfl) (by kernel_rfl) (by kernel_rfl) (of_decide_eq_true (by kernel_rfl)) (fun p => p.2.1) (fun _ _ => ⟨rfl, rfl⟩) ev56
noncomputable def c32 (N : Nat) : Cx := mkC tyL [(49, g49), (54, g54), (56, g56)] [(50, i50), (53, i53), (55, i55)] mtL N
def g32 : Sig := ⟨(.cons (.ptr (.cons (.cons (.ptr (.cons (.own (.int .u64)) .nl)) .nl) .nl)) (.cons (.pure (.arr 128 (.int .u64))) .nl)), (.cons (.pure (.int .i64)) (.cons (.pure (.int .i64)) .nl)), (Int × Int × ((((List Int) × Unit) × Unit) × Unit)), fun x => m_arena_Arena_Alloc x.1 x.2.1, fun _ y => (y.1, (y.2.1, ())), fun _ y => (y.2.2, ((), ()))⟩
def an32 : Nat → Ann := mkA []
theorem ev32 : ∀ x : g32.ps.den, evalFn (c32 FUEL) an32 Try.f32 (codeOf Try.f32) g32 x (fun p => (p.1.1, p.1.2.1, p.2.1)) = g32.m x := by
  intro x
  obtain ⟨x0, x1, xu⟩ := x
  show _ = _
  kernel_rfl
theorem meets32 : Meets Try.prog 32 g32 :=
  meets_of (C := c32 FUEL) (ann := an32) (mkC_ok (gs := [(49, g49), (54, g54), (56, g56)]) (is := [(50, i50), (53, i53), (55, i55)]) (mt := mtL) tysOK elemOK ⟨meets49, meets54, meets56, trivial⟩ ⟨inl50, inl53, inl55, trivial⟩ mtOK FUEL) mixed Try.func32 (by kernel_rfl) (by kernel_rfl) (by kernel_rfl) (of_decide_eq_true (by kernel_rfl)) (fun p => (p.1.1, p.1.2.1, p.2.1)) (fun _ _ => ⟨rfl, rfl⟩) ev32
noncomputable def c73 (N : Nat) : Cx := mkC tyL [] [(55, i55)] mtL N
def g73 : Sig := ⟨(.cons (.ptr (.cons (.cons (.ptr (.cons (.own (.int .u64)) .nl)) .nl) .nl)) .nl), (.cons (.pure (.int .i64)) .nl), (Int × ((((List Int) × Unit) × Unit) × Unit)), fun x => m_arena_Arena_pages x.1, fun _ y => (y.1, ()), fun _ y => (y.2, ())⟩
def an73 : Nat → Ann := mkA []
theorem ev73 : ∀ x : g73.ps.den, evalFn (c73 FUEL) an73 Try.f73 (codeOf Try.f73) g73 x (fun p => (p.1.1, p.2.1)) = g73.m x := by
  intro x
  obtain ⟨x0, xu⟩ := x
  show _ = _
  kernel_rfl
theorem meets73 : Meets Try.prog 73 g73 :=
  meets_of (C := c73 FUEL) (ann := an73) (mkC_ok (gs := []) (is := [(55, i55)]) (mt := mtL) tysOK elemOK trivial ⟨inl55, trivial⟩ mtOK FUEL) mixed Try.func73 (by kernel_rfl) (by kernel_rfl) (by kernel_rfl) (of_decide_eq_true (by kernel_rfl)) (fun p => (p.1.1, p.2.1)) (fun _ _ => ⟨rfl, rfl⟩) ev73
noncomputable def c63 (N : Nat) : Cx := mkC tyL [(73, g73)] [(53, i53)] mtL N
noncomputable def i63 : List AV → Nat → Pg AV := inlPg (c63 0) Try.f63 (codeOf Try.f63)
theorem inl63 : Inlines Try.prog 63 i63 := inlines (C := c63 0) (mkC_ok (gs := [(73, g73)]) (is := [(53, i53)]) (mt := mtL) tysOK elemOK ⟨meets73, trivial⟩ ⟨inl53, trivial⟩ mtOK 0) mixed Try.func63 (by kernel_rfl) (by kernel_rfl)
noncomputable def c74 (N : Nat) : Cx := mkC tyL [(49, g49)] [(55, i55)] mtL N
def g74 : Sig := ⟨(.cons (.ptr (.cons (.cons (.ptr (.cons (.own (.int .u64)) .nl)) .nl) .nl)) (.cons (.pure (.int .i64)) .nl)), (.cons (.pure (.int .u64)) .nl), (Int × ((((List Int) × Unit) × Unit) × Unit)), fun x => m_arena_Arena_kind x.1 x.2.1, fun _ y => (y.1, ()), fun _ y => (y.2, ((), ()))⟩
def an74 : Nat → Ann := mkA []
theorem ev74 : ∀ x : g74.ps.den, evalFn (c74 FUEL) an74 Try.f74 (codeOf Try.f74) g74 x (fun p => (p.1.1, p.2.1)) = g74.m x := by
  intro x
  obtain ⟨x0, x1, xu⟩ := x
  show _ = _
  kernel_rfl
theorem meets74 : Meets Try.prog 74 g74 :=
  meets_of (C := c74 FUEL) (ann := an74) (mkC_ok (gs := [(49, g49)]) (is := [(55, i55)]) (mt := mtL) tysOK elemOK ⟨meets49, trivial⟩ ⟨inl55, trivial⟩ mtOK FUEL) mixed Try.func74 (by kernel_rfl) (by kernel_rfl) (by kernel_rfl) (of_decide_eq_true (by kernel_rfl)) (fun p => (p.1.1, p.2.1)) (fun _ _ => ⟨rfl, rfl⟩) ev74
def c64 (N : Nat) : Cx := mkC tyL [(74, g74)] [] mtL N
def g64 : Sig := ⟨(.cons (.ptr (.cons (.cons (.ptr (.cons (.own (.int .u64)) .nl)) .nl) .nl)) (.cons (.pure (.int .i64)) .nl)), (.cons (.pure .bool) .nl), (Bool × ((((List Int) × Unit) × Unit) × Unit)), fun x => m_arena_Arena_used x.1 x.2.1, fun _ y => (y.1, ()), fun _ y => (y.2, ((), ()))⟩
def an64 : Nat → Ann := mkA []
theorem ev64 : ∀ x : g64.ps.den, evalFn (c64 FUEL) an64 Try.f64 (codeOf Try.f64) g64 x (fun p => (p.1.1, p.2.1)) = g64.m x := by
  intro x
  obtain ⟨x0, x1, xu⟩ := x
  show _ = _
  kernel_rfl
theorem meets64 : Meets Try.prog 64 g64 :=
  meets_of (C := c64 FUEL) (ann := an64) (mkC_ok (gs := [(74, g74)]) (is := []) (mt := mtL) tysOK elemOK ⟨meets74, trivial⟩ trivial mtOK FUEL) mixed Try.func64 (by kernel_rfl) (by kernel_rfl) (by kernel_rfl) (of_decide_eq_true (by kernel_rfl)) (fun p => (p.1.1, p.2.1)) (fun _ _ => ⟨rfl, rfl⟩) ev64
noncomputable def c65 (N : Nat) : Cx := mkC tyL [] [(53, i53), (55, i55)] mtL N
def g65 : Sig := ⟨(.cons (.ptr (.cons (.cons (.ptr (.cons (.own (.int .u64)) .nl)) .nl) .nl)) .nl), (.cons (.pure (.int .i64)) .nl), (Int × ((((List Int) × Unit) × Unit) × Unit)), fun x => m_arena_Arena_Root x.1, fun _ y => (y.1, ()), fun _ y => (y.2, ())⟩
def an65 : Nat → Ann := mkA []
theorem ev65 : ∀ x : g65.ps.den, evalFn (c65 FUEL) an65 Try.f65 (codeOf Try.f65) g65 x (fun p => (p.1.1, p.2.1)) = g65.m x := by
  intro x
  obtain ⟨x0, xu⟩ := x
  show _ = _
  kernel_rfl
theorem meets65 : Meets Try.prog 65 g65 :=
  meets_of (C := c65 FUEL) (ann := an65) (mkC_ok (gs := []) (is := [(53, i53), (55, i55)]) (mt := mtL) tysOK elemOK trivial ⟨inl53, inl55, trivial⟩ mtOK FUEL) mixed Try.func65 (by kernel_rfl) (by kernel_rfl) (by kernel_rfl) (of_decide_eq_true (by kernel_rfl)) (fun p => (p.1.1, p.2.1)) (fun _ _ => ⟨rfl, rfl⟩) ev65
noncomputable def c57 (N : Nat) : Cx := mkC tyL [(64, g64), (65, g65)] [(63, i63)] mtL N
def g57 : Sig := ⟨(.cons (.ptr (.cons (.cons (.ptr (.cons (.own (.int .u64)) .nl)) .nl) .nl)) (.cons (.pure (.int .i64)) (.cons (.pure .bool) .nl))), (.cons (.pure (.int .i64)) .nl), (Int × ((((List Int) × Unit) × Unit) × Unit)), fun x => m_arena_Arena_busy x.1 x.2.1 x.2.2.1, fun _ y => (y.1, ()), fun _ y => (y.2, ((), ((), ())))⟩
def an57 : Nat → Ann := mkA []
theorem ev57 : ∀ x : g57.ps.den, evalFn (c57 FUEL) an57 Try.f57 (codeOf Try.f57) g57 x (fun p => (p.1.1, p.2.1)) = g57.m x := by
  intro x
  obtain ⟨x0, x1, x2, xu⟩ := x
  show _ = _
  kernel_rfl
theorem meets57 : Meets Try.prog 57 g57 :=
  meets_of (C := c57 FUEL) (ann := an57) (mkC_ok (gs := [(64, g64), (65, g65)]) (is := [(63, i63)]) (mt := mtL) tysOK elemOK ⟨meets64, meets65, trivial⟩ ⟨inl63, trivial⟩ mtOK FUEL) mixed Try.func57 (by kernel_rfl) (by kernel_rfl) (by kernel_rfl) (of_decide_eq_true (by kernel_rfl)) (fun p => (p.1.1, p.2.1)) (fun _ _ => ⟨rfl, rfl⟩) ev57
noncomputable def c33 (N : Nat) : Cx := mkC tyL [(57, g57)] [(50, i50), (53, i53)] mtL N
def g33 : Sig := ⟨(.cons (.ptr (.cons (.cons (.ptr (.cons (.own (.int .u64)) .nl)) .nl) .nl)) (.cons (.pure (.int .i64)) .nl)), (.cons (.pure (.int .i64)) .nl), (Int × ((((List Int) × Unit) × Unit) × Unit)), fun x => m_arena_Arena_SetRoot x.1 x.2.1, fun _ y => (y.1, ()), fun _ y => (y.2, ((), ()))⟩
def an33 : Nat → Ann := mkA []
theorem ev33 : ∀ x : g33.ps.den, evalFn (c33 FUEL) an33 Try.f33 (codeOf Try.f33) g33 x (fun p => (p.1.1, p.2.1)) = g33.m x := by
  intro x
  obtain ⟨x0, x1, xu⟩ := x
  show _ = _
  kernel_rfl
theorem meets33 : Meets Try.prog 33 g33 :=
  meets_of (C := c33 FUEL) (ann := an33) (mkC_ok (gs := [(57, g57)]) (is := [(50, i50), (53, i53)]) (mt := mtL) tysOK elemOK ⟨meets57, trivial⟩ ⟨inl50, inl53, trivial⟩ mtOK FUEL) mixed Try.func33 (by kernel_rfl) (by kernel_rfl) (by kernel_rfl) (of_decide_eq_true (by kernel_rfl)) (fun p => (p.1.1, p.2.1)) (fun _ _ => ⟨rfl, rfl⟩) ev33
noncomputable def c34 (N : Nat) : Cx := mkC tyL [(14, g14)] [(53, i53)] mtL N
def g34 : Sig := ⟨(.cons (.ptr (.cons (.cons (.ptr (.cons (.own (.int .u64)) .nl)) .nl) .nl)) .nl), (.cons (.nptr (.cons (.own (.int .u64)) .nl)) .nl), ((Option ((List Int) × Unit)) × ((((List Int) × Unit) × Unit) × Unit)), fun x => m_arena_Arena_Mem x.1, fun _ y => (y.1, ()), fun _ y => (y.2, ())⟩
def an34 : Nat → Ann := mkA []
theorem ev34 : ∀ x : g34.ps.den, evalFn (c34 FUEL) an34 Try.f34 (codeOf Try.f34) g34 x (fun p => (p.1.1, p.2.1)) = g34.m x := by
  intro x
  obtain ⟨x0, xu⟩ := x
  show _ = _
  kernel_rfl
theorem meets34 : Meets Try.prog 34 g34 :=
  meets_of (C := c34 FUEL) (ann := an34) (mkC_ok (gs := [(14, g14)]) (is := [(53, i53)]) (mt := mtL) tysOK elemOK ⟨meets14, trivial⟩ ⟨inl53, trivial⟩ mtOK FUEL) mixed Try.func34 (by kernel_rfl) (by kernel_rfl) (by kernel_rfl) (of_decide_eq_true (by kernel_rfl)) (fun p => (p.1.1, p.2.1)) (fun _ _ => ⟨rfl, rfl⟩) ev34
def c10 (N : Nat) : Cx := mkC tyL [(11, g11), (28, g28), (30, g30), (31, g31), (32, g32), (33, g33), (34, g34)] [] mtL N
def g10 : Sig := ⟨(.cons (.pure (.pair (.int .i64) (.pair (.int .i64) .nl))) .nl), (.cons (.nptr (.cons (.own (.int .u64)) .nl)) (.cons (.pure (.int .i64)) .nl)), ((Option ((List Int) × Unit)) × Int), fun x => m_descend_Format x.1, fun _ y => (y.1, (y.2, ())), fun _ y => ((), ())⟩
def an10 : Nat → Ann := mkA []
theorem ev10 : ∀ x : g10.ps.den, evalFn (c10 FUEL) an10 Try.f10 (codeOf Try.f10) g10 x (fun p => (p.1.1, p.1.2.1)) = g10.m x := by
  intro x
  obtain ⟨x0, xu⟩ := x
  show _ = _
  kernel_rfl
theorem meets10 : Meets Try.prog 10 g10 :=
  meets_of (C := c10 FUEL) (ann := an10) (mkC_ok (gs := [(11, g11), (28, g28), (30, g30), (31, g31), (32, g32), (33, g33), (34, g34)]) (is := []) (mt := mtL) tysOK elemOK ⟨meets11, meets28, meets30, meets31, meets32, meets33, meets34, trivial⟩ trivial mtOK FUEL) mixed Try.func10 (by kernel_rfl) (by kernel_rfl) (by kernel_rfl) (of_decide_eq_true (by kernel_rfl)) (fun p => (p.1.1, p.1.2.1)) (fun _ _ => ⟨rfl, rfl⟩) ev10
def c35 (N : Nat) : Cx := mkC tyL [(28, g28)] [] mtL N
def g35 : Sig := ⟨(.cons (.pure (.pair (.int .i64) (.pair (.int .i64) .nl))) (.cons (.pure (.int .i64)) .nl)), (.cons (.pure .bool) .nl), Bool, fun x => m_deadline_allowed x.1 x.2.1, fun _ y => (y, ()), fun _ y => ((), ((), ()))⟩
def an35 : Nat → Ann := mkA []
theorem ev35 : ∀ x : g35.ps.den, evalFn (c35 FUEL) an35 Try.f35 (codeOf Try.f35) g35 x (fun p => p.1.1) = g35.m x := by
  intro x
  obtain ⟨x0, x1, xu⟩ := x
  show _ = _
  kernel_rfl
theorem meets35 : Meets Try.prog 35 g35 :=
  meets_of (C := c35 FUEL) (ann := an35) (mkC_ok (gs := [(28, g28)]) (is := []) (mt := mtL) tysOK elemOK ⟨meets28, trivial⟩ trivial mtOK FUEL) mixed Try.func35 (by kernel_rfl) (by kernel_rfl) (by kernel_rfl) (of_decide_eq_true (by kernel_rfl)) (fun p => p.1.1) (fun _ _ => ⟨rfl, rfl⟩) ev35
noncomputable def c12 (N : Nat) : Cx := mkC tyL [(16, g16), (35, g35), (62, g62)] [(95, i95)] mtL N
noncomputable def i12 : List AV → Nat → Pg AV := inlPg (c12 0) Try.f12 (codeOf Try.f12)
theorem inl12 : Inlines Try.prog 12 i12 := inlines (C := c12 0) (mkC_ok (gs := [(16, g16), (35, g35), (62, g62)]) (is := [(95, i95)]) (mt := mtL) tysOK elemOK ⟨meets16, meets35, meets62, trivial⟩ ⟨inl95, trivial⟩ mtOK 0) mixed Try.func12 (by kernel_rfl) (by kernel_rfl)
noncomputable def c36 (N : Nat) : Cx := mkC tyL [(16, g16), (35, g35), (62, g62)] [(95, i95)] mtL N
noncomputable def i36 : List AV → Nat → Pg AV := inlPg (c36 0) Try.f36 (codeOf Try.f36)
theorem inl36 : Inlines Try.prog 36 i36 := inlines (C := c36 0) (mkC_ok (gs := [(16, g16), (35, g35), (62, g62)]) (is := [(95, i95)]) (mt := mtL) tysOK elemOK ⟨meets16, meets35, meets62, trivial⟩ ⟨inl95, trivial⟩ mtOK 0) mixed Try.func36 (by kernel_rfl) (by kernel_rfl)
noncomputable def c13 (N : Nat) : Cx := mkC tyL [] [(36, i36)] mtL N
noncomputable def i13 : List AV → Nat → Pg AV := inlPg (c13 0) Try.f13 (codeOf Try.f13)
theorem inl13 : Inlines Try.prog 13 i13 := inlines (C := c13 0) (mkC_ok (gs := []) (is := [(36, i36)]) (mt := mtL) tysOK elemOK trivial ⟨inl36, trivial⟩ mtOK 0) mixed Try.func13 (by kernel_rfl) (by kernel_rfl)
def c18 (N : Nat) : Cx := mkC tyL [(35, g35)] [] mtL N
def g18 : Sig := ⟨(.cons (.pure (.pair (.int .i64) (.pair (.int .i64) .nl))) (.cons (.pure (.int .i64)) .nl)), (.cons (.nptr (.pure (.pair .bool (.pair .bool (.pair (.int .i64) (.pair (.int .i64) .nl)))))) (.cons (.pure (.int .i64)) .nl)), ((Option (Bool × (Bool × (Int × (Int × Unit))))) × Int), fun x => m_deadline_NewCheck x.1 x.2.1, fun _ y => (y.1, (y.2, ())), fun _ y => ((), ((), ()))⟩
def an18 : Nat → Ann := mkA []
theorem ev18 : ∀ x : g18.ps.den, evalFn (c18 FUEL) an18 Try.f18 (codeOf Try.f18) g18 x (fun p => (p.1.1, p.1.2.1)) = g18.m x := by
  intro x
  obtain ⟨x0, x1, xu⟩ := x
  show _ = _
  kernel_rfl
theorem meets18 : Meets Try.prog 18 g18 :=
  meets_of (C := c18 FUEL) (ann := an18) (mkC_ok (gs := [(35, g35)]) (is := []) (mt := mtL) tysOK elemOK ⟨meets35, trivial⟩ trivial mtOK FUEL) mixed Try.func18 (by kernel_rfl) (by kernel_rfl) (by kernel_rfl) (of_decide_eq_true (by kernel_rfl)) (fun p => (p.1.1, p.1.2.1)) (fun _ _ => ⟨rfl, rfl⟩) ev18
def c23 (N : Nat) : Cx := mkC tyL [] [] mtL N
def g23 : Sig := ⟨.nl, (.cons (.pure (.pair (.int .i64) (.pair (.int .i64) .nl))) .nl), (Int × (Int × Unit)), fun x => m_ticketlinelaw33_given, fun _ y => (y, ()), fun _ y => ()⟩
def an23 : Nat → Ann := mkA []
theorem ev23 : ∀ x : g23.ps.den, evalFn (c23 FUEL) an23 Try.f23 (codeOf Try.f23) g23 x (fun p => p.1.1) = g23.m x := by
  intro x
  show _ = _
  kernel_rfl
theorem meets23 : Meets Try.prog 23 g23 :=
  meets_of (C := c23 FUEL) (ann := an23) (mkC_ok (gs := []) (is := []) (mt := mtL) tysOK elemOK trivial trivial mtOK FUEL) mixed Try.func23 (by kernel_rfl) (by kernel_rfl) (by kernel_rfl) (of_decide_eq_true (by kernel_rfl)) (fun p => p.1.1) (fun _ _ => ⟨rfl, rfl⟩) ev23
def c41 (N : Nat) : Cx := mkC tyL [] [] mtL N
noncomputable def i41 : List AV → Nat → Pg AV := inlPg (c41 0) Try.f41 (codeOf Try.f41)
theorem inl41 : Inlines Try.prog 41 i41 := inlines (C := c41 0) (mkC_ok (gs := []) (is := []) (mt := mtL) tysOK elemOK trivial trivial mtOK 0) mixed Try.func41 (by kernel_rfl) (by kernel_rfl)
noncomputable def c24 (N : Nat) : Cx := mkC tyL [(16, g16), (62, g62)] [(41, i41), (95, i95)] mtL N
noncomputable def i24 : List AV → Nat → Pg AV := inlPg (c24 0) Try.f24 (codeOf Try.f24)
theorem inl24 : Inlines Try.prog 24 i24 := inlines (C := c24 0) (mkC_ok (gs := [(16, g16), (62, g62)]) (is := [(41, i41), (95, i95)]) (mt := mtL) tysOK elemOK ⟨meets16, meets62, trivial⟩ ⟨inl41, inl95, trivial⟩ mtOK 0) mixed Try.func24 (by kernel_rfl) (by kernel_rfl)
noncomputable def c25 (N : Nat) : Cx := mkC tyL [] [(41, i41)] mtL N
def g25 : Sig := ⟨(.cons (.ptr (.pure (.pair .bool (.pair .bool (.pair (.int .i64) (.pair (.int .i64) .nl)))))) .nl), (.cons (.pure .bool) .nl), (Bool × (Bool × (Bool × (Int × (Int × Unit))))), fun x => m_deadline_Check_Done x.1, fun _ y => (y.1, ()), fun _ y => (y.2, ())⟩
def an25 : Nat → Ann := mkA []
theorem ev25 : ∀ x : g25.ps.den, evalFn (c25 FUEL) an25 Try.f25 (codeOf Try.f25) g25 x (fun p => (p.1.1, p.2.1)) = g25.m x := by
  intro x
  obtain ⟨x0, xu⟩ := x
  show _ = _
  kernel_rfl
theorem meets25 : Meets Try.prog 25 g25 :=
  meets_of (C := c25 FUEL) (ann := an25) (mkC_ok (gs := []) (is := [(41, i41)]) (mt := mtL) tysOK elemOK trivial ⟨inl41, trivial⟩ mtOK FUEL) mixed Try.func25 (by kernel_rfl) (by kernel_rfl) (by kernel_rfl) (of_decide_eq_true (by kernel_rfl)) (fun p => (p.1.1, p.2.1)) (fun _ _ => ⟨rfl, rfl⟩) ev25
noncomputable def c44 (N : Nat) : Cx := mkC tyL [] [(41, i41)] mtL N
def g44 : Sig := ⟨(.cons (.ptr (.pure (.pair .bool (.pair .bool (.pair (.int .i64) (.pair (.int .i64) .nl)))))) .nl), (.cons (.pure .bool) .nl), (Bool × (Bool × (Bool × (Int × (Int × Unit))))), fun x => m_deadline_Check_over x.1, fun _ y => (y.1, ()), fun _ y => (y.2, ())⟩
def an44 : Nat → Ann := mkA []
theorem ev44 : ∀ x : g44.ps.den, evalFn (c44 FUEL) an44 Try.f44 (codeOf Try.f44) g44 x (fun p => (p.1.1, p.2.1)) = g44.m x := by
  intro x
  obtain ⟨x0, xu⟩ := x
  show _ = _
  kernel_rfl
theorem meets44 : Meets Try.prog 44 g44 :=
  meets_of (C := c44 FUEL) (ann := an44) (mkC_ok (gs := []) (is := [(41, i41)]) (mt := mtL) tysOK elemOK trivial ⟨inl41, trivial⟩ mtOK FUEL) mixed Try.func44 (by kernel_rfl) (by kernel_rfl) (by kernel_rfl) (of_decide_eq_true (by kernel_rfl)) (fun p => (p.1.1, p.2.1)) (fun _ _ => ⟨rfl, rfl⟩) ev44
def c26 (N : Nat) : Cx := mkC tyL [(44, g44)] [] mtL N
def g26 : Sig := ⟨(.cons (.ptr (.pure (.pair .bool (.pair .bool (.pair (.int .i64) (.pair (.int .i64) .nl)))))) .nl), (.cons (.pure (.int .i64)) .nl), (Int × (Bool × (Bool × (Int × (Int × Unit))))), fun x => m_deadline_Check_Tick x.1, fun _ y => (y.1, ()), fun _ y => (y.2, ())⟩
def an26 : Nat → Ann := mkA []
theorem ev26 : ∀ x : g26.ps.den, evalFn (c26 FUEL) an26 Try.f26 (codeOf Try.f26) g26 x (fun p => (p.1.1, p.2.1)) = g26.m x := by
  intro x
  obtain ⟨x0, xu⟩ := x
  show _ = _
  kernel_rfl
theorem meets26 : Meets Try.prog 26 g26 :=
  meets_of (C := c26 FUEL) (ann := an26) (mkC_ok (gs := [(44, g44)]) (is := []) (mt := mtL) tysOK elemOK ⟨meets44, trivial⟩ trivial mtOK FUEL) mixed Try.func26 (by kernel_rfl) (by kernel_rfl) (by kernel_rfl) (of_decide_eq_true (by kernel_rfl)) (fun p => (p.1.1, p.2.1)) (fun _ _ => ⟨rfl, rfl⟩) ev26
def c45 (N : Nat) : Cx := mkC tyL [] [] mtL N
def g45 : Sig := ⟨(.cons (.pure (.int .i64)) (.cons (.pure (.int .i64)) .nl)), (.cons (.pure .bool) .nl), Bool, fun x => m_clock_Passed x.1 x.2.1, fun _ y => (y, ()), fun _ y => ((), ((), ()))⟩
def an45 : Nat → Ann := mkA []
theorem ev45 : ∀ x : g45.ps.den, evalFn (c45 FUEL) an45 Try.f45 (codeOf Try.f45) g45 x (fun p => p.1.1) = g45.m x := by
  intro x
  obtain ⟨x0, x1, xu⟩ := x
  show _ = _
  kernel_rfl
theorem meets45 : Meets Try.prog 45 g45 :=
  meets_of (C := c45 FUEL) (ann := an45) (mkC_ok (gs := []) (is := []) (mt := mtL) tysOK elemOK trivial trivial mtOK FUEL) mixed Try.func45 (by kernel_rfl) (by kernel_rfl) (by kernel_rfl) (of_decide_eq_true (by kernel_rfl)) (fun p => p.1.1) (fun _ _ => ⟨rfl, rfl⟩) ev45
def c27 (N : Nat) : Cx := mkC tyL [(44, g44), (45, g45)] [] mtL N
def g27 : Sig := ⟨(.cons (.ptr (.pure (.pair .bool (.pair .bool (.pair (.int .i64) (.pair (.int .i64) .nl)))))) .nl), (.cons (.pure (.int .u64)) .nl), (Int × (Bool × (Bool × (Int × (Int × Unit))))), fun x => m_deadline_Check_Result x.1, fun _ y => (y.1, ()), fun _ y => (y.2, ())⟩
def an27 : Nat → Ann := mkA []
theorem ev27 : ∀ x : g27.ps.den, evalFn (c27 FUEL) an27 Try.f27 (codeOf Try.f27) g27 x (fun p => (p.1.1, p.2.1)) = g27.m x := by
  intro x
  obtain ⟨x0, xu⟩ := x
  show _ = _
  kernel_rfl
theorem meets27 : Meets Try.prog 27 g27 :=
  meets_of (C := c27 FUEL) (ann := an27) (mkC_ok (gs := [(44, g44), (45, g45)]) (is := []) (mt := mtL) tysOK elemOK ⟨meets44, meets45, trivial⟩ trivial mtOK FUEL) mixed Try.func27 (by kernel_rfl) (by kernel_rfl) (by kernel_rfl) (of_decide_eq_true (by kernel_rfl)) (fun p => (p.1.1, p.2.1)) (fun _ _ => ⟨rfl, rfl⟩) ev27
noncomputable def c42 (N : Nat) : Cx := mkC tyL [] [(37, i37)] mtL N
noncomputable def i42 : List AV → Nat → Pg AV := inlPg (c42 0) Try.f42 (codeOf Try.f42)
theorem inl42 : Inlines Try.prog 42 i42 := inlines (C := c42 0) (mkC_ok (gs := []) (is := [(37, i37)]) (mt := mtL) tysOK elemOK trivial ⟨inl37, trivial⟩ mtOK 0) mixed Try.func42 (by kernel_rfl) (by kernel_rfl)
noncomputable def c43 (N : Nat) : Cx := mkC tyL [] [(58, i58)] mtL N
noncomputable def i43 : List AV → Nat → Pg AV := inlPg (c43 0) Try.f43 (codeOf Try.f43)
theorem inl43 : Inlines Try.prog 43 i43 := inlines (C := c43 0) (mkC_ok (gs := []) (is := [(58, i58)]) (mt := mtL) tysOK elemOK trivial ⟨inl58, trivial⟩ mtOK 0) mixed Try.func43 (by kernel_rfl) (by kernel_rfl)
noncomputable def c21 (N : Nat) : Cx := mkC tyL [(25, g25), (26, g26), (27, g27)] [(24, i24), (42, i42), (43, i43)] mtL N
def g21 : Sig := ⟨(.cons (.ptr (.cons (.own (.int .u64)) .nl)) (.cons (.ptr (.pure (.pair .bool (.pair .bool (.pair (.int .i64) (.pair (.int .i64) .nl)))))) (.cons (.pure (.int .u64)) (.cons (.pure (.int .i64)) .nl)))), (.cons (.pure .bool) .nl), (Bool × ((List Int) × Unit) × (Bool × (Bool × (Int × (Int × Unit))))), fun x => m_ticketlinelaw33_looks x.1 x.2.1 x.2.2.1 x.2.2.2.1, fun _ y => (y.1, ()), fun _ y => (y.2.1, (y.2.2, ((), ((), ()))))⟩
def an21 : Nat → Ann := mkA []
theorem ev21 : ∀ x : g21.ps.den, evalFn (c21 FUEL) an21 Try.f21 (codeOf Try.f21) g21 x (fun p => (p.1.1, p.2.1, p.2.2.1)) = g21.m x := by
  intro x
  obtain ⟨x0, x1, x2, x3, xu⟩ := x
  show _ = _
  kernel_rfl
theorem meets21 : Meets Try.prog 21 g21 :=
  meets_of (C := c21 FUEL) (ann := an21) (mkC_ok (gs := [(25, g25), (26, g26), (27, g27)]) (is := [(24, i24), (42, i42), (43, i43)]) (mt := mtL) tysOK elemOK ⟨meets25, meets26, meets27, trivial⟩ ⟨inl24, inl42, inl43, trivial⟩ mtOK FUEL) mixed Try.func21 (by kernel_rfl) (by kernel_rfl) (by kernel_rfl) (of_decide_eq_true (by kernel_rfl)) (fun p => (p.1.1, p.2.1, p.2.2.1)) (fun _ _ => ⟨rfl, rfl⟩) ev21
def c29 (N : Nat) : Cx := mkC tyL [(18, g18), (21, g21)] [] mtL N
def g29 : Sig := ⟨(.cons (.ptr (.cons (.own (.int .u64)) .nl)) (.cons (.pure (.pair (.int .i64) (.pair (.int .i64) .nl))) (.cons (.pure (.int .i64)) (.cons (.pure (.int .u64)) (.cons (.pure (.int .i64)) .nl))))), (.cons (.pure .bool) .nl), (Bool × ((List Int) × Unit)), fun x => m_ticketlinelaw33_check x.1 x.2.1 x.2.2.1 x.2.2.2.1 x.2.2.2.2.1, fun _ y => (y.1, ()), fun _ y => (y.2, ((), ((), ((), ((), ())))))⟩
def an29 : Nat → Ann := mkA []
theorem ev29 : ∀ x : g29.ps.den, evalFn (c29 FUEL) an29 Try.f29 (codeOf Try.f29) g29 x (fun p => (p.1.1, p.2.1)) = g29.m x := by
  intro x
  obtain ⟨x0, x1, x2, x3, x4, xu⟩ := x
  show _ = _
  kernel_rfl
theorem meets29 : Meets Try.prog 29 g29 :=
  meets_of (C := c29 FUEL) (ann := an29) (mkC_ok (gs := [(18, g18), (21, g21)]) (is := []) (mt := mtL) tysOK elemOK ⟨meets18, meets21, trivial⟩ trivial mtOK FUEL) mixed Try.func29 (by kernel_rfl) (by kernel_rfl) (by kernel_rfl) (of_decide_eq_true (by kernel_rfl)) (fun p => (p.1.1, p.2.1)) (fun _ _ => ⟨rfl, rfl⟩) ev29
noncomputable def c9 (N : Nat) : Cx := mkC tyL [(10, g10), (18, g18), (23, g23), (29, g29)] [(12, i12), (13, i13)] mtL N
def g9 : Sig := ⟨.nl, (.cons (.pure .bool) .nl), Bool, fun x => m_ticketlinelaw33_known, fun _ y => (y, ()), fun _ y => ()⟩
def an9 : Nat → Ann := mkA []
theorem ev9 : ∀ x : g9.ps.den, evalFn (c9 FUEL) an9 Try.f9 (codeOf Try.f9) g9 x (fun p => p.1.1) = g9.m x := by
  intro x
  show _ = _
  kernel_rfl
theorem meets9 : Meets Try.prog 9 g9 :=
  meets_of (C := c9 FUEL) (ann := an9) (mkC_ok (gs := [(10, g10), (18, g18), (23, g23), (29, g29)]) (is := [(12, i12), (13, i13)]) (mt := mtL) tysOK elemOK ⟨meets10, meets18, meets23, meets29, trivial⟩ ⟨inl12, inl13, trivial⟩ mtOK FUEL) mixed Try.func9 (by kernel_rfl) (by kernel_rfl) (by kernel_rfl) (of_decide_eq_true (by kernel_rfl)) (fun p => p.1.1) (fun _ _ => ⟨rfl, rfl⟩) ev9
noncomputable def c19 (N : Nat) : Cx := mkC tyL [] [(41, i41)] mtL N
noncomputable def i19 : List AV → Nat → Pg AV := inlPg (c19 0) Try.f19 (codeOf Try.f19)
theorem inl19 : Inlines Try.prog 19 i19 := inlines (C := c19 0) (mkC_ok (gs := []) (is := [(41, i41)]) (mt := mtL) tysOK elemOK trivial ⟨inl41, trivial⟩ mtOK 0) mixed Try.func19 (by kernel_rfl) (by kernel_rfl)
noncomputable def ci25 (N : Nat) : Cx := mkC tyL [] [(41, i41)] mtL N
noncomputable def i25 : List AV → Nat → Pg AV := inlPg (ci25 0) Try.f25 (codeOf Try.f25)
theorem inl25 : Inlines Try.prog 25 i25 := inlines (C := ci25 0) (mkC_ok (gs := []) (is := [(41, i41)]) (mt := mtL) tysOK elemOK trivial ⟨inl41, trivial⟩ mtOK 0) mixed Try.func25 (by kernel_rfl) (by kernel_rfl)
noncomputable def ci44 (N : Nat) : Cx := mkC tyL [] [(41, i41)] mtL N
noncomputable def i44 : List AV → Nat → Pg AV := inlPg (ci44 0) Try.f44 (codeOf Try.f44)
theorem inl44 : Inlines Try.prog 44 i44 := inlines (C := ci44 0) (mkC_ok (gs := []) (is := [(41, i41)]) (mt := mtL) tysOK elemOK trivial ⟨inl41, trivial⟩ mtOK 0) mixed Try.func44 (by kernel_rfl) (by kernel_rfl)
noncomputable def ci26 (N : Nat) : Cx := mkC tyL [] [(44, i44)] mtL N
noncomputable def i26 : List AV → Nat → Pg AV := inlPg (ci26 0) Try.f26 (codeOf Try.f26)
theorem inl26 : Inlines Try.prog 26 i26 := inlines (C := ci26 0) (mkC_ok (gs := []) (is := [(44, i44)]) (mt := mtL) tysOK elemOK trivial ⟨inl44, trivial⟩ mtOK 0) mixed Try.func26 (by kernel_rfl) (by kernel_rfl)
noncomputable def ci27 (N : Nat) : Cx := mkC tyL [] [(44, i44)] mtL N
noncomputable def i27 : List AV → Nat → Pg AV := inlPg (ci27 0) Try.f27 (codeOf Try.f27)
theorem inl27 : Inlines Try.prog 27 i27 := inlines (C := ci27 0) (mkC_ok (gs := []) (is := [(44, i44)]) (mt := mtL) tysOK elemOK trivial ⟨inl44, trivial⟩ mtOK 0) mixed Try.func27 (by kernel_rfl) (by kernel_rfl)
noncomputable def c7 (N : Nat) : Cx := mkC tyL [(9, g9), (11, g11), (18, g18), (23, g23)] [(12, i12), (19, i19), (24, i24), (25, i25), (26, i26), (27, i27)] mtL N
def g7 : Sig := ⟨.nl, (.cons (.pure .bool) .nl), Bool, fun x => m_ticketlinelaw33_DeadlineNone, fun _ y => (y, ()), fun _ y => ()⟩
def an7 : Nat → Ann := mkA [(6, ⟨[1, 22, 23, 24], [], [200320, 22, 200321, 21], true, []⟩)]
theorem ev7 : ∀ x : g7.ps.den, evalFn (c7 FUEL) an7 Try.f7 (codeOf Try.f7) g7 x (fun p => p.1.1) = g7.m x := by
  intro x
  show _ = _
  kernel_rfl
theorem meets7 : Meets Try.prog 7 g7 :=
  meets_of (C := c7 FUEL) (ann := an7) (mkC_ok (gs := [(9, g9), (11, g11), (18, g18), (23, g23)]) (is := [(12, i12), (19, i19), (24, i24), (25, i25), (26, i26), (27, i27)]) (mt := mtL) tysOK elemOK ⟨meets9, meets11, meets18, meets23, trivial⟩ ⟨inl12, inl19, inl24, inl25, inl26, inl27, trivial⟩ mtOK FUEL) mixed Try.func7 (by kernel_rfl) (by kernel_rfl) (by kernel_rfl) (of_decide_eq_true (by kernel_rfl)) (fun p => p.1.1) (fun _ _ => ⟨rfl, rfl⟩) ev7
end Go.Proofs.Ytiknbfledplnlaa
