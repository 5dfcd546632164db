/- A part of the proof of a statement of this seat: the functions keep their promises. No condition. -/
import Derived.Test.YtmageoiakgcgmaaY05
import Derived.Test.YtmageoiakgcgmaaEv30
import Derived.Test.YtmageoiakgcgmaaM05
import Derived.Test.YtmageoiakgcgmaaChecked
set_option linter.unusedVariables false
set_option maxRecDepth 100000
namespace Go.Proofs.Ytmageoiakgcgmaa
open Go Go.Ev Go.Ev.M Go.Proofs
def tyL : List (Nat × TI) := [
  (3, ⟨(.int .i64), 1, 8, (.int .i64 (0 : Int)), some (.int .i64), false⟩),
  (4, ⟨.bool, 1, 1, (.bool false), some .bool, false⟩),
  (5, ⟨(.int .u8), 1, 1, (.int .u8 (0 : Int)), some (.int .u8), false⟩),
  (9, ⟨.str, 1, 16, (.str (⟨#[]⟩ : ByteArray)), some .str, false⟩),
  (28, ⟨(.int .i64), 1, 8, (.int .i64 (0 : Int)), some (.int .i64), false⟩),
  (29, ⟨(.sl 43), 1, 24, .nils, some (.sl (.int .u64)), false⟩),
  (43, ⟨(.int .u64), 1, 8, (.int .u64 (0 : Int)), some (.int .u64), false⟩),
  (50, ⟨(.sl 5), 1, 24, .nils, some (.sl (.int .u8)), false⟩)]
theorem tysOK : tisB Try.prog tyL = true := by kernel_rfl
theorem elemOK : elemB (mkD tyL) tyL = true := by kernel_rfl
theorem mixed : Try.prog.follows .mixedOrders = true := by kernel_rfl
def mtL : List (Nat × String × Nat) := []
theorem mtOK : MOk Try.prog mtL := trivial
def g45 : Sig := gCmp
theorem meets45 : Meets Try.prog 45 g45 := meets_cmp (fn := Try.f45) Try.func45 (by kernel_rfl) (by kernel_rfl) (by kernel_rfl) (by kernel_rfl)
def g31 : Sig := gRep
theorem meets31 : Meets Try.prog 31 g31 := meets_rep (fn := Try.f31) Try.func31 (by kernel_rfl) (by kernel_rfl) (fun s c w h1 h2 => Try.strings_Repeat s c w h1 h2)
def c10 (N : Nat) : Cx := mkC tyL [] [] mtL N
def g10 : Sig := ⟨(.cons (.pure .str) .nl), (.cons (.pure .bool) .nl), Bool, fun x => m_keys_ValidKey x.1, fun _ y => (y, ()), fun _ y => ((), ())⟩
def an10 : Nat → Ann := mkA []
theorem ev10 : ∀ x : g10.ps.den, evalFn (c10 FUEL) an10 Try.f10 (codeOf Try.f10) g10 x (fun p => p.1.1) = g10.m x := by
  intro x
  obtain ⟨x0, xu⟩ := x
  show _ = _
  kernel_rfl
theorem meets10 : Meets Try.prog 10 g10 :=
  meets_of (C := c10 FUEL) (ann := an10) (mkC_ok (gs := []) (is := []) (mt := mtL) tysOK elemOK trivial trivial mtOK FUEL) mixed Try.func10 (by kernel_rfl) (by kernel_rfl) (by kernel_rfl) (of_decide_eq_true (by kernel_rfl)) (fun p => p.1.1) (fun _ _ => ⟨rfl, rfl⟩) ev10
def c12 (N : Nat) : Cx := mkC tyL [] [] mtL N
def g12 : Sig := ⟨(.cons (.pure .str) .nl), (.cons (.pure .bool) .nl), Bool, fun x => m_keys_ValidValue x.1, fun _ y => (y, ()), fun _ y => ((), ())⟩
def an12 : Nat → Ann := mkA []
theorem ev12 : ∀ x : g12.ps.den, evalFn (c12 FUEL) an12 Try.f12 (codeOf Try.f12) g12 x (fun p => p.1.1) = g12.m x := by
  intro x
  obtain ⟨x0, xu⟩ := x
  show _ = _
  kernel_rfl
theorem meets12 : Meets Try.prog 12 g12 :=
  meets_of (C := c12 FUEL) (ann := an12) (mkC_ok (gs := []) (is := []) (mt := mtL) tysOK elemOK trivial trivial mtOK FUEL) mixed Try.func12 (by kernel_rfl) (by kernel_rfl) (by kernel_rfl) (of_decide_eq_true (by kernel_rfl)) (fun p => p.1.1) (fun _ _ => ⟨rfl, rfl⟩) ev12
def c40 (N : Nat) : Cx := mkC tyL [(45, g45)] [] mtL N
def g40 : Sig := ⟨(.cons (.pure .str) (.cons (.pure .str) .nl)), (.cons (.pure (.int .i64)) .nl), Int, fun x => m_internal_bytealg_CompareString x.1 x.2.1, fun _ y => (y, ()), fun _ y => ((), ((), ()))⟩
def an40 : Nat → Ann := mkA []
theorem ev40 : ∀ x : g40.ps.den, evalFn (c40 FUEL) an40 Try.f40 (codeOf Try.f40) g40 x (fun p => p.1.1) = g40.m x := by
  intro x
  obtain ⟨x0, x1, xu⟩ := x
  show _ = _
  kernel_rfl
theorem meets40 : Meets Try.prog 40 g40 :=
  meets_of (C := c40 FUEL) (ann := an40) (mkC_ok (gs := [(45, g45)]) (is := []) (mt := mtL) tysOK elemOK ⟨meets45, trivial⟩ trivial mtOK FUEL) mixed Try.func40 (by kernel_rfl) (by kernel_rfl) (by kernel_rfl) (of_decide_eq_true (by kernel_rfl)) (fun p => p.1.1) (fun _ _ => ⟨rfl, rfl⟩) ev40
def c33 (N : Nat) : Cx := mkC tyL [(40, g40)] [] mtL N
def g33 : Sig := ⟨(.cons (.pure .str) (.cons (.pure .str) .nl)), (.cons (.pure (.int .i64)) .nl), Int, fun x => m_strings_Compare x.1 x.2.1, fun _ y => (y, ()), fun _ y => ((), ((), ()))⟩
def an33 : Nat → Ann := mkA []
theorem ev33 : ∀ x : g33.ps.den, evalFn (c33 FUEL) an33 Try.f33 (codeOf Try.f33) g33 x (fun p => p.1.1) = g33.m x := by
  intro x
  obtain ⟨x0, x1, xu⟩ := x
  show _ = _
  kernel_rfl
theorem meets33 : Meets Try.prog 33 g33 :=
  meets_of (C := c33 FUEL) (ann := an33) (mkC_ok (gs := [(40, g40)]) (is := []) (mt := mtL) tysOK elemOK ⟨meets40, trivial⟩ trivial mtOK FUEL) mixed Try.func33 (by kernel_rfl) (by kernel_rfl) (by kernel_rfl) (of_decide_eq_true (by kernel_rfl)) (fun p => p.1.1) (fun _ _ => ⟨rfl, rfl⟩) ev33
def c14 (N : Nat) : Cx := mkC tyL [(33, g33)] [] mtL N
def g14 : Sig := ⟨(.cons (.pure .str) (.cons (.pure .str) .nl)), (.cons (.pure (.int .i64)) .nl), Int, fun x => m_keys_Compare x.1 x.2.1, fun _ y => (y, ()), fun _ y => ((), ((), ()))⟩
def an14 : Nat → Ann := mkA []
theorem ev14 : ∀ x : g14.ps.den, evalFn (c14 FUEL) an14 Try.f14 (codeOf Try.f14) g14 x (fun p => p.1.1) = g14.m x := by
  intro x
  obtain ⟨x0, x1, xu⟩ := x
  show _ = _
  kernel_rfl
theorem meets14 : Meets Try.prog 14 g14 :=
  meets_of (C := c14 FUEL) (ann := an14) (mkC_ok (gs := [(33, g33)]) (is := []) (mt := mtL) tysOK elemOK ⟨meets33, trivial⟩ trivial mtOK FUEL) mixed Try.func14 (by kernel_rfl) (by kernel_rfl) (by kernel_rfl) (of_decide_eq_true (by kernel_rfl)) (fun p => p.1.1) (fun _ _ => ⟨rfl, rfl⟩) ev14
def c16 (N : Nat) : Cx := mkC tyL [] [] mtL N
def g16 : Sig := ⟨(.cons (.pure .str) (.cons (.pure .str) .nl)), (.cons (.pure (.int .i64)) .nl), Int, fun x => m_keys_Prefix x.1 x.2.1, fun _ y => (y, ()), fun _ y => ((), ((), ()))⟩
def an16 : Nat → Ann := mkA [(2, ⟨[0, 1, 5], [], [], false⟩)]
noncomputable def k16 (N : Nat) : Ex → St → Option Int := finK (c16 N) Try.f16 g16 (.cons .top (.cons .top .nl)) (fun p => p.1.1)
def a16 : Nat → Ann := annP [] an16
def h16_0 (u0_0 : ByteArray) (u0_1 : ByteArray) (u0_2 : Int) : St := ⟨28, [(0, (.str u0_0)), (1, (.str u0_1)), (5, (.int .i64 u0_2))], []⟩
theorem t16_0 : ∀ (N : Nat) (n : Nat) (u0_0 : ByteArray) (u0_1 : ByteArray) (u0_2 : Int), loopAt (c16 N) a16 [1, 1, 0, 0] [] (codeOf Try.f16) (k16 N) n (h16_0 u0_0 u0_1 u0_2) = m_keys_Prefix_l0 N n u0_0 u0_1 u0_2 := by
  intro N n
  induction n with
  | zero => intro u0_0 u0_1 u0_2; kernel_rfl
  | succ n ih =>
    intro u0_0 u0_1 u0_2
    have e : loopAt (c16 N) a16 [1, 1, 0, 0] [] (codeOf Try.f16) (k16 N) (n + 1) (h16_0 u0_0 u0_1 u0_2) = m_keys_Prefix_l0_b (fun w0 w1 w2 => loopAt (c16 N) a16 [1, 1, 0, 0] [] (codeOf Try.f16) (k16 N) n (h16_0 w0 w1 w2)) u0_0 u0_1 u0_2 := by kernel_rfl
    refine e.trans ?_
    have es : (fun w0 w1 w2 => loopAt (c16 N) a16 [1, 1, 0, 0] [] (codeOf Try.f16) (k16 N) n (h16_0 w0 w1 w2)) = m_keys_Prefix_l0 N n := by
      funext w0 w1 w2; exact ih w0 w1 w2
    rw [es]
    rw [m_keys_Prefix_l0]
theorem ew16 : ∀ (N : Nat) (x : g16.ps.den), evalFn (c16 N) an16 Try.f16 (codeOf Try.f16) g16 x (fun p => p.1.1) = m_keys_Prefix_a (m_keys_Prefix_l0 N N) x.1 x.2.1 := by
  intro N
  intro x
  obtain ⟨x0, x1, xu⟩ := x
  have e : evalFn (c16 N) an16 Try.f16 (codeOf Try.f16) g16 (x0, x1, xu) (fun p => p.1.1) = m_keys_Prefix_a (fun w0 w1 w2 => loopAt (c16 N) a16 [1, 1, 0, 0] [] (codeOf Try.f16) (k16 N) N (h16_0 w0 w1 w2)) x0 x1 := by kernel_rfl
  refine e.trans ?_
  have e0 : (fun w0 w1 w2 => loopAt (c16 N) a16 [1, 1, 0, 0] [] (codeOf Try.f16) (k16 N) N (h16_0 w0 w1 w2)) = m_keys_Prefix_l0 N N := by
    funext w0 w1 w2; exact t16_0 N N w0 w1 w2
  rw [e0]
theorem ev16 : ∀ x : g16.ps.den, evalFn (c16 FUEL) an16 Try.f16 (codeOf Try.f16) g16 x (fun p => p.1.1) = g16.m x := fun x => ew16 FUEL x
theorem meets16 : Meets Try.prog 16 g16 :=
  meets_of (C := c16 FUEL) (ann := an16) (mkC_ok (gs := []) (is := []) (mt := mtL) tysOK elemOK trivial trivial mtOK FUEL) mixed Try.func16 (by kernel_rfl) (by kernel_rfl) (by kernel_rfl) (of_decide_eq_true (by kernel_rfl)) (fun p => p.1.1) (fun _ _ => ⟨rfl, rfl⟩) ev16
def c17 (N : Nat) : Cx := mkC tyL [] [] mtL N
def g17 : Sig := ⟨(.cons (.pure (.int .i64)) .nl), (.cons (.pure (.int .i64)) .nl), Int, fun x => m_keys_Words x.1, fun _ y => (y, ()), fun _ y => ((), ())⟩
def an17 : Nat → Ann := mkA []
theorem ev17 : ∀ x : g17.ps.den, evalFn (c17 FUEL) an17 Try.f17 (codeOf Try.f17) g17 x (fun p => p.1.1) = g17.m x := by
  intro x
  obtain ⟨x0, xu⟩ := x
  show _ = _
  kernel_rfl
theorem meets17 : Meets Try.prog 17 g17 :=
  meets_of (C := c17 FUEL) (ann := an17) (mkC_ok (gs := []) (is := []) (mt := mtL) tysOK elemOK trivial trivial mtOK FUEL) mixed Try.func17 (by kernel_rfl) (by kernel_rfl) (by kernel_rfl) (of_decide_eq_true (by kernel_rfl)) (fun p => p.1.1) (fun _ _ => ⟨rfl, rfl⟩) ev17
def c23 (N : Nat) : Cx := mkC tyL [] [] mtL N
def g23 : Sig := ⟨(.cons (.pure (.sl (.int .u64))) (.cons (.pure (.sl (.int .u64))) .nl)), (.cons (.pure .bool) .nl), Bool, fun x => m_ticketlineref05_Same x.1 x.2.1, fun _ y => (y, ()), fun _ y => ((), ((), ()))⟩
def an23 : Nat → Ann := mkA [(4, ⟨[0, 1, 5], [], [], false⟩)]
noncomputable def k23 (N : Nat) : Ex → St → Option Bool := finK (c23 N) Try.f23 g23 (.cons .top (.cons .top .nl)) (fun p => p.1.1)
def a23 : Nat → Ann := annP [] an23
def h23_0 (u0_0 : (List Int)) (u0_1 : (List Int)) (u0_2 : Int) : St := ⟨26, [(0, (.lst (.int .u64) u0_0)), (1, (.lst (.int .u64) u0_1)), (5, (.int .i64 u0_2))], []⟩
theorem t23_0 : ∀ (N : Nat) (n : Nat) (u0_0 : (List Int)) (u0_1 : (List Int)) (u0_2 : Int), loopAt (c23 N) a23 [1, 1, 0, 1, 0] [] (codeOf Try.f23) (k23 N) n (h23_0 u0_0 u0_1 u0_2) = m_ticketlineref05_Same_l0 N n u0_0 u0_1 u0_2 := by
  intro N n
  induction n with
  | zero => intro u0_0 u0_1 u0_2; kernel_rfl
  | succ n ih =>
    intro u0_0 u0_1 u0_2
    have e : loopAt (c23 N) a23 [1, 1, 0, 1, 0] [] (codeOf Try.f23) (k23 N) (n + 1) (h23_0 u0_0 u0_1 u0_2) = m_ticketlineref05_Same_l0_b (fun w0 w1 w2 => loopAt (c23 N) a23 [1, 1, 0, 1, 0] [] (codeOf Try.f23) (k23 N) n (h23_0 w0 w1 w2)) u0_0 u0_1 u0_2 := by kernel_rfl
    refine e.trans ?_
    have es : (fun w0 w1 w2 => loopAt (c23 N) a23 [1, 1, 0, 1, 0] [] (codeOf Try.f23) (k23 N) n (h23_0 w0 w1 w2)) = m_ticketlineref05_Same_l0 N n := by
      funext w0 w1 w2; exact ih w0 w1 w2
    rw [es]
    rw [m_ticketlineref05_Same_l0]
theorem ew23 : ∀ (N : Nat) (x : g23.ps.den), evalFn (c23 N) an23 Try.f23 (codeOf Try.f23) g23 x (fun p => p.1.1) = m_ticketlineref05_Same_a (m_ticketlineref05_Same_l0 N N) x.1 x.2.1 := by
  intro N
  intro x
  obtain ⟨x0, x1, xu⟩ := x
  have e : evalFn (c23 N) an23 Try.f23 (codeOf Try.f23) g23 (x0, x1, xu) (fun p => p.1.1) = m_ticketlineref05_Same_a (fun w0 w1 w2 => loopAt (c23 N) a23 [1, 1, 0, 1, 0] [] (codeOf Try.f23) (k23 N) N (h23_0 w0 w1 w2)) x0 x1 := by kernel_rfl
  refine e.trans ?_
  have e0 : (fun w0 w1 w2 => loopAt (c23 N) a23 [1, 1, 0, 1, 0] [] (codeOf Try.f23) (k23 N) N (h23_0 w0 w1 w2)) = m_ticketlineref05_Same_l0 N N := by
    funext w0 w1 w2; exact t23_0 N N w0 w1 w2
  rw [e0]
theorem ev23 : ∀ x : g23.ps.den, evalFn (c23 FUEL) an23 Try.f23 (codeOf Try.f23) g23 x (fun p => p.1.1) = g23.m x := fun x => ew23 FUEL x
theorem meets23 : Meets Try.prog 23 g23 :=
  meets_of (C := c23 FUEL) (ann := an23) (mkC_ok (gs := []) (is := []) (mt := mtL) tysOK elemOK trivial trivial mtOK FUEL) mixed Try.func23 (by kernel_rfl) (by kernel_rfl) (by kernel_rfl) (of_decide_eq_true (by kernel_rfl)) (fun p => p.1.1) (fun _ _ => ⟨rfl, rfl⟩) ev23
def c28 (N : Nat) : Cx := mkC tyL [(12, g12), (17, g17)] [] mtL N
def g28 : Sig := ⟨(.cons (.pure .str) .nl), (.cons (.own (.int .u64)) (.cons (.pure (.int .i64)) .nl)), ((List Int) × Int), fun x => m_keys_Pack x.1, fun _ y => (y.1, (y.2, ())), fun _ y => ((), ())⟩
def an28 : Nat → Ann := mkA [(5, ⟨[0, 14, 15], [(4, (.int .u64))], [], false⟩), (9, ⟨[0, 4, 5, 6, 14, 15, 18], [], [300004], false⟩)]
noncomputable def k28 (N : Nat) : Ex → St → Option ((List Int) × Int) := finK (c28 N) Try.f28 g28 (.cons .top .nl) (fun p => (p.1.1, p.1.2.1))
def a28 : Nat → Ann := annP [] an28
def h28_1 (u1_0 : ByteArray) (u1_1 : Int) (u1_2 : Int) (u1_3 : Int) (u1_4 : Int) (u1_5 : Int) (u1_6 : (List Int)) : St := ⟨44, [(0, (.str u1_0)), (4, (.full 300004)), (5, (.int .i64 u1_1)), (6, (.int .u64 u1_2)), (14, (.int .i64 u1_3)), (15, (.int .i64 u1_4)), (18, (.int .i64 u1_5))], [(300004, (.bk (.int .u64) u1_6))]⟩
def h28_0 (u0_0 : ByteArray) (u0_1 : Int) (u0_2 : Int) (u0_3 : (List Int)) : St := ⟨44, [(4, .full 300004), (0, (.str u0_0)), (14, (.int .i64 u0_1)), (15, (.int .i64 u0_2))], [(300004, (.bk (.int .u64) u0_3))]⟩
theorem t28_1 : ∀ (N : Nat) (m0 : Nat) (n : Nat) (u1_0 : ByteArray) (u1_1 : Int) (u1_2 : Int) (u1_3 : Int) (u1_4 : Int) (u1_5 : Int) (u1_6 : (List Int)), loopAt (c28 N) a28 [1, 1, 1, 0, 1, 0, 0, 1, 1, 0, 0, 1, 1, 0, 1, 0] [m0] (codeOf Try.f28) (k28 N) n (h28_1 u1_0 u1_1 u1_2 u1_3 u1_4 u1_5 u1_6) = m_keys_Pack_l1 N (fun w0 w1 w2 w3 => loopAt (c28 N) a28 [1, 1, 1, 0, 1, 0] [] (codeOf Try.f28) (k28 N) m0 (h28_0 w0 w1 w2 w3)) n u1_0 u1_1 u1_2 u1_3 u1_4 u1_5 u1_6 := by
  intro N m0 n
  induction n with
  | zero => intro u1_0 u1_1 u1_2 u1_3 u1_4 u1_5 u1_6; kernel_rfl
  | succ n ih =>
    intro u1_0 u1_1 u1_2 u1_3 u1_4 u1_5 u1_6
    have e : loopAt (c28 N) a28 [1, 1, 1, 0, 1, 0, 0, 1, 1, 0, 0, 1, 1, 0, 1, 0] [m0] (codeOf Try.f28) (k28 N) (n + 1) (h28_1 u1_0 u1_1 u1_2 u1_3 u1_4 u1_5 u1_6) = m_keys_Pack_l1_b (fun w0 w1 w2 w3 => loopAt (c28 N) a28 [1, 1, 1, 0, 1, 0] [] (codeOf Try.f28) (k28 N) m0 (h28_0 w0 w1 w2 w3)) (fun w0 w1 w2 w3 w4 w5 w6 => loopAt (c28 N) a28 [1, 1, 1, 0, 1, 0, 0, 1, 1, 0, 0, 1, 1, 0, 1, 0] [m0] (codeOf Try.f28) (k28 N) n (h28_1 w0 w1 w2 w3 w4 w5 w6)) u1_0 u1_1 u1_2 u1_3 u1_4 u1_5 u1_6 := by kernel_rfl
    refine e.trans ?_
    have es : (fun w0 w1 w2 w3 w4 w5 w6 => loopAt (c28 N) a28 [1, 1, 1, 0, 1, 0, 0, 1, 1, 0, 0, 1, 1, 0, 1, 0] [m0] (codeOf Try.f28) (k28 N) n (h28_1 w0 w1 w2 w3 w4 w5 w6)) = m_keys_Pack_l1 N (fun w0 w1 w2 w3 => loopAt (c28 N) a28 [1, 1, 1, 0, 1, 0] [] (codeOf Try.f28) (k28 N) m0 (h28_0 w0 w1 w2 w3)) n := by
      funext w0 w1 w2 w3 w4 w5 w6; exact ih w0 w1 w2 w3 w4 w5 w6
    rw [es]
    rw [m_keys_Pack_l1]
theorem t28_0 : ∀ (N : Nat) (n : Nat) (u0_0 : ByteArray) (u0_1 : Int) (u0_2 : Int) (u0_3 : (List Int)), loopAt (c28 N) a28 [1, 1, 1, 0, 1, 0] [] (codeOf Try.f28) (k28 N) n (h28_0 u0_0 u0_1 u0_2 u0_3) = m_keys_Pack_l0 N n u0_0 u0_1 u0_2 u0_3 := by
  intro N n
  induction n with
  | zero => intro u0_0 u0_1 u0_2 u0_3; kernel_rfl
  | succ n ih =>
    intro u0_0 u0_1 u0_2 u0_3
    have e : loopAt (c28 N) a28 [1, 1, 1, 0, 1, 0] [] (codeOf Try.f28) (k28 N) (n + 1) (h28_0 u0_0 u0_1 u0_2 u0_3) = m_keys_Pack_l0_b (fun w0 w1 w2 w3 => loopAt (c28 N) a28 [1, 1, 1, 0, 1, 0] [] (codeOf Try.f28) (k28 N) n (h28_0 w0 w1 w2 w3)) (fun w0 w1 w2 w3 w4 w5 w6 => loopAt (c28 N) a28 [1, 1, 1, 0, 1, 0, 0, 1, 1, 0, 0, 1, 1, 0, 1, 0] [n] (codeOf Try.f28) (k28 N) N (h28_1 w0 w1 w2 w3 w4 w5 w6)) u0_0 u0_1 u0_2 u0_3 := by kernel_rfl
    refine e.trans ?_
    have e1 : (fun w0 w1 w2 w3 w4 w5 w6 => loopAt (c28 N) a28 [1, 1, 1, 0, 1, 0, 0, 1, 1, 0, 0, 1, 1, 0, 1, 0] [n] (codeOf Try.f28) (k28 N) N (h28_1 w0 w1 w2 w3 w4 w5 w6)) = m_keys_Pack_l1 N (fun w0 w1 w2 w3 => loopAt (c28 N) a28 [1, 1, 1, 0, 1, 0] [] (codeOf Try.f28) (k28 N) n (h28_0 w0 w1 w2 w3)) N := by
      funext w0 w1 w2 w3 w4 w5 w6; exact t28_1 N n N w0 w1 w2 w3 w4 w5 w6
    rw [e1]
    have es : (fun w0 w1 w2 w3 => loopAt (c28 N) a28 [1, 1, 1, 0, 1, 0] [] (codeOf Try.f28) (k28 N) n (h28_0 w0 w1 w2 w3)) = m_keys_Pack_l0 N n := by
      funext w0 w1 w2 w3; exact ih w0 w1 w2 w3
    rw [es]
    rw [m_keys_Pack_l0]
theorem ew28 : ∀ (N : Nat) (x : g28.ps.den), evalFn (c28 N) an28 Try.f28 (codeOf Try.f28) g28 x (fun p => (p.1.1, p.1.2.1)) = m_keys_Pack_a (m_keys_Pack_l0 N N) x.1 := by
  intro N
  intro x
  obtain ⟨x0, xu⟩ := x
  have e : evalFn (c28 N) an28 Try.f28 (codeOf Try.f28) g28 (x0, xu) (fun p => (p.1.1, p.1.2.1)) = m_keys_Pack_a (fun w0 w1 w2 w3 => loopAt (c28 N) a28 [1, 1, 1, 0, 1, 0] [] (codeOf Try.f28) (k28 N) N (h28_0 w0 w1 w2 w3)) x0 := by kernel_rfl
  refine e.trans ?_
  have e0 : (fun w0 w1 w2 w3 => loopAt (c28 N) a28 [1, 1, 1, 0, 1, 0] [] (codeOf Try.f28) (k28 N) N (h28_0 w0 w1 w2 w3)) = m_keys_Pack_l0 N N := by
    funext w0 w1 w2 w3; exact t28_0 N N w0 w1 w2 w3
  rw [e0]
theorem ev28 : ∀ x : g28.ps.den, evalFn (c28 FUEL) an28 Try.f28 (codeOf Try.f28) g28 x (fun p => (p.1.1, p.1.2.1)) = g28.m x := fun x => ew28 FUEL x
theorem meets28 : Meets Try.prog 28 g28 :=
  meets_of (C := c28 FUEL) (ann := an28) (mkC_ok (gs := [(12, g12), (17, g17)]) (is := []) (mt := mtL) tysOK elemOK ⟨meets12, meets17, trivial⟩ trivial mtOK FUEL) mixed Try.func28 (by kernel_rfl) (by kernel_rfl) (by kernel_rfl) (of_decide_eq_true (by kernel_rfl)) (fun p => (p.1.1, p.1.2.1)) (fun _ _ => ⟨rfl, rfl⟩) ev28
def c19 (N : Nat) : Cx := mkC tyL [(23, g23), (28, g28)] [] mtL N
def g19 : Sig := ⟨(.cons (.pure .str) (.cons (.pure (.sl (.int .u64))) (.cons (.pure (.int .i64)) .nl))), (.cons (.pure .bool) .nl), Bool, fun x => m_ticketlinelaw05_packs x.1 x.2.1 x.2.2.1, fun _ y => (y, ()), fun _ y => ((), ((), ((), ())))⟩
def an19 : Nat → Ann := mkA []
theorem ev19 : ∀ x : g19.ps.den, evalFn (c19 FUEL) an19 Try.f19 (codeOf Try.f19) g19 x (fun p => p.1.1) = g19.m x := by
  intro x
  obtain ⟨x0, x1, x2, xu⟩ := x
  show _ = _
  kernel_rfl
theorem meets19 : Meets Try.prog 19 g19 :=
  meets_of (C := c19 FUEL) (ann := an19) (mkC_ok (gs := [(23, g23), (28, g28)]) (is := []) (mt := mtL) tysOK elemOK ⟨meets23, meets28, trivial⟩ trivial mtOK FUEL) mixed Try.func19 (by kernel_rfl) (by kernel_rfl) (by kernel_rfl) (of_decide_eq_true (by kernel_rfl)) (fun p => p.1.1) (fun _ _ => ⟨rfl, rfl⟩) ev19
def c34 (N : Nat) : Cx := mkC tyL [(17, g17)] [] mtL N
def g34 : Sig := ⟨(.cons (.pure (.sl (.int .u64))) (.cons (.pure (.int .i64)) .nl)), (.cons (.pure .str) (.cons (.pure (.int .i64)) .nl)), (ByteArray × Int), fun x => m_keys_Unpack x.1 x.2.1, fun _ y => (y.1, (y.2, ())), fun _ y => ((), ((), ()))⟩
def an34 : Nat → Ann := mkA [(9, ⟨[1, 24, 25, 26], [(6, (.int .u8))], [], false⟩), (12, ⟨[1, 8, 9, 24, 25, 26], [(6, (.int .u8))], [], false⟩), (17, ⟨[1, 6, 45, 46, 47], [], [300006], false⟩)]
noncomputable def k34 (N : Nat) : Ex → St → Option (ByteArray × Int) := finK (c34 N) Try.f34 g34 (.cons .top (.cons .top .nl)) (fun p => (p.1.1, p.1.2.1))
def a34 : Nat → Ann := annP [] an34
def h34_1 (u1_0 : Int) (u1_1 : Int) (u1_2 : Int) (u1_3 : (List Int)) (u1_4 : Int) (u1_5 : Int) (u1_6 : (List Int)) : St := ⟨58, [(6, .full 300006), (1, (.int .i64 u1_0)), (8, (.int .u64 u1_1)), (9, (.int .i64 u1_2)), (24, (.lst (.int .u64) u1_3)), (25, (.int .i64 u1_4)), (26, (.int .i64 u1_5))], [(300006, (.bk (.int .u8) u1_6))]⟩
def h34_2 (u2_0 : Int) (u2_1 : Int) (u2_2 : Int) (u2_3 : Int) (u2_4 : Int) (u2_5 : (List Int)) : St := ⟨58, [(1, (.int .i64 u2_0)), (6, (.full 300006)), (45, (.view 300006 [] u2_1 u2_2)), (46, (.int .i64 u2_3)), (47, (.int .i64 u2_4))], [(300006, (.bk (.int .u8) u2_5))]⟩
def h34_0 (u0_0 : Int) (u0_1 : (List Int)) (u0_2 : Int) (u0_3 : Int) (u0_4 : (List Int)) : St := ⟨58, [(6, .full 300006), (1, (.int .i64 u0_0)), (24, (.lst (.int .u64) u0_1)), (25, (.int .i64 u0_2)), (26, (.int .i64 u0_3))], [(300006, (.bk (.int .u8) u0_4))]⟩
theorem t34_1 : ∀ (N : Nat) (m0 : Nat) (n : Nat) (u1_0 : Int) (u1_1 : Int) (u1_2 : Int) (u1_3 : (List Int)) (u1_4 : Int) (u1_5 : Int) (u1_6 : (List Int)), loopAt (c34 N) a34 [1, 1, 1, 0, 1, 0, 0, 1, 1, 0, 0, 1, 1, 0] [m0] (codeOf Try.f34) (k34 N) n (h34_1 u1_0 u1_1 u1_2 u1_3 u1_4 u1_5 u1_6) = m_keys_Unpack_l1 N (fun w0 w1 w2 w3 w4 => loopAt (c34 N) a34 [1, 1, 1, 0, 1, 0] [] (codeOf Try.f34) (k34 N) m0 (h34_0 w0 w1 w2 w3 w4)) n u1_0 u1_1 u1_2 u1_3 u1_4 u1_5 u1_6 := by
  intro N m0 n
  induction n with
  | zero => intro u1_0 u1_1 u1_2 u1_3 u1_4 u1_5 u1_6; kernel_rfl
  | succ n ih =>
    intro u1_0 u1_1 u1_2 u1_3 u1_4 u1_5 u1_6
    have e : loopAt (c34 N) a34 [1, 1, 1, 0, 1, 0, 0, 1, 1, 0, 0, 1, 1, 0] [m0] (codeOf Try.f34) (k34 N) (n + 1) (h34_1 u1_0 u1_1 u1_2 u1_3 u1_4 u1_5 u1_6) = m_keys_Unpack_l1_b (fun w0 w1 w2 w3 w4 => loopAt (c34 N) a34 [1, 1, 1, 0, 1, 0] [] (codeOf Try.f34) (k34 N) m0 (h34_0 w0 w1 w2 w3 w4)) (fun w0 w1 w2 w3 w4 w5 w6 => loopAt (c34 N) a34 [1, 1, 1, 0, 1, 0, 0, 1, 1, 0, 0, 1, 1, 0] [m0] (codeOf Try.f34) (k34 N) n (h34_1 w0 w1 w2 w3 w4 w5 w6)) u1_0 u1_1 u1_2 u1_3 u1_4 u1_5 u1_6 := by kernel_rfl
    refine e.trans ?_
    have es : (fun w0 w1 w2 w3 w4 w5 w6 => loopAt (c34 N) a34 [1, 1, 1, 0, 1, 0, 0, 1, 1, 0, 0, 1, 1, 0] [m0] (codeOf Try.f34) (k34 N) n (h34_1 w0 w1 w2 w3 w4 w5 w6)) = m_keys_Unpack_l1 N (fun w0 w1 w2 w3 w4 => loopAt (c34 N) a34 [1, 1, 1, 0, 1, 0] [] (codeOf Try.f34) (k34 N) m0 (h34_0 w0 w1 w2 w3 w4)) n := by
      funext w0 w1 w2 w3 w4 w5 w6; exact ih w0 w1 w2 w3 w4 w5 w6
    rw [es]
    rw [m_keys_Unpack_l1]
theorem t34_2 : ∀ (N : Nat) (n : Nat) (u2_0 : Int) (u2_1 : Int) (u2_2 : Int) (u2_3 : Int) (u2_4 : Int) (u2_5 : (List Int)), loopAt (c34 N) a34 [1, 1, 1, 1, 0, 1, 0] [] (codeOf Try.f34) (k34 N) n (h34_2 u2_0 u2_1 u2_2 u2_3 u2_4 u2_5) = m_keys_Unpack_l2 N n u2_0 u2_1 u2_2 u2_3 u2_4 u2_5 := by
  intro N n
  induction n with
  | zero => intro u2_0 u2_1 u2_2 u2_3 u2_4 u2_5; kernel_rfl
  | succ n ih =>
    intro u2_0 u2_1 u2_2 u2_3 u2_4 u2_5
    have e : loopAt (c34 N) a34 [1, 1, 1, 1, 0, 1, 0] [] (codeOf Try.f34) (k34 N) (n + 1) (h34_2 u2_0 u2_1 u2_2 u2_3 u2_4 u2_5) = m_keys_Unpack_l2_b (fun w0 w1 w2 w3 w4 w5 => loopAt (c34 N) a34 [1, 1, 1, 1, 0, 1, 0] [] (codeOf Try.f34) (k34 N) n (h34_2 w0 w1 w2 w3 w4 w5)) u2_0 u2_1 u2_2 u2_3 u2_4 u2_5 := by kernel_rfl
    refine e.trans ?_
    have es : (fun w0 w1 w2 w3 w4 w5 => loopAt (c34 N) a34 [1, 1, 1, 1, 0, 1, 0] [] (codeOf Try.f34) (k34 N) n (h34_2 w0 w1 w2 w3 w4 w5)) = m_keys_Unpack_l2 N n := by
      funext w0 w1 w2 w3 w4 w5; exact ih w0 w1 w2 w3 w4 w5
    rw [es]
    rw [m_keys_Unpack_l2]
theorem t34_0 : ∀ (N : Nat) (n : Nat) (u0_0 : Int) (u0_1 : (List Int)) (u0_2 : Int) (u0_3 : Int) (u0_4 : (List Int)), loopAt (c34 N) a34 [1, 1, 1, 0, 1, 0] [] (codeOf Try.f34) (k34 N) n (h34_0 u0_0 u0_1 u0_2 u0_3 u0_4) = m_keys_Unpack_l0 N n u0_0 u0_1 u0_2 u0_3 u0_4 := by
  intro N n
  induction n with
  | zero => intro u0_0 u0_1 u0_2 u0_3 u0_4; kernel_rfl
  | succ n ih =>
    intro u0_0 u0_1 u0_2 u0_3 u0_4
    have e : loopAt (c34 N) a34 [1, 1, 1, 0, 1, 0] [] (codeOf Try.f34) (k34 N) (n + 1) (h34_0 u0_0 u0_1 u0_2 u0_3 u0_4) = m_keys_Unpack_l0_b (fun w0 w1 w2 w3 w4 => loopAt (c34 N) a34 [1, 1, 1, 0, 1, 0] [] (codeOf Try.f34) (k34 N) n (h34_0 w0 w1 w2 w3 w4)) (fun w0 w1 w2 w3 w4 w5 w6 => loopAt (c34 N) a34 [1, 1, 1, 0, 1, 0, 0, 1, 1, 0, 0, 1, 1, 0] [n] (codeOf Try.f34) (k34 N) N (h34_1 w0 w1 w2 w3 w4 w5 w6)) (fun w0 w1 w2 w3 w4 w5 => loopAt (c34 N) a34 [1, 1, 1, 1, 0, 1, 0] [] (codeOf Try.f34) (k34 N) N (h34_2 w0 w1 w2 w3 w4 w5)) u0_0 u0_1 u0_2 u0_3 u0_4 := by kernel_rfl
    refine e.trans ?_
    have e1 : (fun w0 w1 w2 w3 w4 w5 w6 => loopAt (c34 N) a34 [1, 1, 1, 0, 1, 0, 0, 1, 1, 0, 0, 1, 1, 0] [n] (codeOf Try.f34) (k34 N) N (h34_1 w0 w1 w2 w3 w4 w5 w6)) = m_keys_Unpack_l1 N (fun w0 w1 w2 w3 w4 => loopAt (c34 N) a34 [1, 1, 1, 0, 1, 0] [] (codeOf Try.f34) (k34 N) n (h34_0 w0 w1 w2 w3 w4)) N := by
      funext w0 w1 w2 w3 w4 w5 w6; exact t34_1 N n N w0 w1 w2 w3 w4 w5 w6
    rw [e1]
    have e2 : (fun w0 w1 w2 w3 w4 w5 => loopAt (c34 N) a34 [1, 1, 1, 1, 0, 1, 0] [] (codeOf Try.f34) (k34 N) N (h34_2 w0 w1 w2 w3 w4 w5)) = m_keys_Unpack_l2 N N := by
      funext w0 w1 w2 w3 w4 w5; exact t34_2 N N w0 w1 w2 w3 w4 w5
    rw [e2]
    have es : (fun w0 w1 w2 w3 w4 => loopAt (c34 N) a34 [1, 1, 1, 0, 1, 0] [] (codeOf Try.f34) (k34 N) n (h34_0 w0 w1 w2 w3 w4)) = m_keys_Unpack_l0 N n := by
      funext w0 w1 w2 w3 w4; exact ih w0 w1 w2 w3 w4
    rw [es]
    rw [m_keys_Unpack_l0]
theorem ew34 : ∀ (N : Nat) (x : g34.ps.den), evalFn (c34 N) an34 Try.f34 (codeOf Try.f34) g34 x (fun p => (p.1.1, p.1.2.1)) = m_keys_Unpack_a (m_keys_Unpack_l0 N N) x.1 x.2.1 := by
  intro N
  intro x
  obtain ⟨x0, x1, xu⟩ := x
  have e : evalFn (c34 N) an34 Try.f34 (codeOf Try.f34) g34 (x0, x1, xu) (fun p => (p.1.1, p.1.2.1)) = m_keys_Unpack_a (fun w0 w1 w2 w3 w4 => loopAt (c34 N) a34 [1, 1, 1, 0, 1, 0] [] (codeOf Try.f34) (k34 N) N (h34_0 w0 w1 w2 w3 w4)) x0 x1 := by kernel_rfl
  refine e.trans ?_
  have e0 : (fun w0 w1 w2 w3 w4 => loopAt (c34 N) a34 [1, 1, 1, 0, 1, 0] [] (codeOf Try.f34) (k34 N) N (h34_0 w0 w1 w2 w3 w4)) = m_keys_Unpack_l0 N N := by
    funext w0 w1 w2 w3 w4; exact t34_0 N N w0 w1 w2 w3 w4
  rw [e0]
theorem ev34 : ∀ x : g34.ps.den, evalFn (c34 FUEL) an34 Try.f34 (codeOf Try.f34) g34 x (fun p => (p.1.1, p.1.2.1)) = g34.m x := fun x => ew34 FUEL x
theorem meets34 : Meets Try.prog 34 g34 :=
  meets_of (C := c34 FUEL) (ann := an34) (mkC_ok (gs := [(17, g17)]) (is := []) (mt := mtL) tysOK elemOK ⟨meets17, trivial⟩ trivial mtOK FUEL) mixed Try.func34 (by kernel_rfl) (by kernel_rfl) (by kernel_rfl) (of_decide_eq_true (by kernel_rfl)) (fun p => (p.1.1, p.1.2.1)) (fun _ _ => ⟨rfl, rfl⟩) ev34
def c21 (N : Nat) : Cx := mkC tyL [(34, g34)] [] mtL N
def g21 : Sig := ⟨(.cons (.pure (.sl (.int .u64))) (.cons (.pure (.int .i64)) (.cons (.pure .str) (.cons (.pure (.int .i64)) .nl)))), (.cons (.pure .bool) .nl), Bool, fun x => m_ticketlinelaw05_unpacks x.1 x.2.1 x.2.2.1 x.2.2.2.1, fun _ y => (y, ()), fun _ y => ((), ((), ((), ((), ()))))⟩
def an21 : Nat → Ann := mkA []
theorem ev21 : ∀ x : g21.ps.den, evalFn (c21 FUEL) an21 Try.f21 (codeOf Try.f21) g21 x (fun p => p.1.1) = g21.m x := by
  intro x
  obtain ⟨x0, x1, x2, x3, xu⟩ := x
  show _ = _
  kernel_rfl
theorem meets21 : Meets Try.prog 21 g21 :=
  meets_of (C := c21 FUEL) (ann := an21) (mkC_ok (gs := [(34, g34)]) (is := []) (mt := mtL) tysOK elemOK ⟨meets34, trivial⟩ trivial mtOK FUEL) mixed Try.func21 (by kernel_rfl) (by kernel_rfl) (by kernel_rfl) (of_decide_eq_true (by kernel_rfl)) (fun p => p.1.1) (fun _ _ => ⟨rfl, rfl⟩) ev21
def c29 (N : Nat) : Cx := mkC tyL [(10, g10)] [] mtL N
def g29 : Sig := ⟨(.cons (.pure .str) .nl), (.cons (.pure .str) (.cons (.pure (.int .i64)) .nl)), (ByteArray × Int), fun x => m_keys_After x.1, fun _ y => (y.1, (y.2, ())), fun _ y => ((), ())⟩
def an29 : Nat → Ann := mkA [(6, ⟨[], [(4, (.int .u8))], [], false⟩)]
noncomputable def k29 (N : Nat) : Ex → St → Option (ByteArray × Int) := finK (c29 N) Try.f29 g29 (.cons .top .nl) (fun p => (p.1.1, p.1.2.1))
def a29 : Nat → Ann := annP [] an29
def h29_0 (u0_0 : (List Int)) : St := ⟨47, [(4, .full 300004)], [(300004, (.bk (.int .u8) u0_0))]⟩
theorem t29_0 : ∀ (N : Nat) (n : Nat) (u0_0 : (List Int)), loopAt (c29 N) a29 [1, 1, 1, 0, 0] [] (codeOf Try.f29) (k29 N) n (h29_0 u0_0) = m_keys_After_l0 N n u0_0 := by
  intro N n
  induction n with
  | zero => intro u0_0; kernel_rfl
  | succ n ih =>
    intro u0_0
    have e : loopAt (c29 N) a29 [1, 1, 1, 0, 0] [] (codeOf Try.f29) (k29 N) (n + 1) (h29_0 u0_0) = m_keys_After_l0_b (fun w0 => loopAt (c29 N) a29 [1, 1, 1, 0, 0] [] (codeOf Try.f29) (k29 N) n (h29_0 w0)) u0_0 := by kernel_rfl
    refine e.trans ?_
    have es : (fun w0 => loopAt (c29 N) a29 [1, 1, 1, 0, 0] [] (codeOf Try.f29) (k29 N) n (h29_0 w0)) = m_keys_After_l0 N n := by
      funext w0; exact ih w0
    rw [es]
    rw [m_keys_After_l0]
theorem ew29 : ∀ (N : Nat) (x : g29.ps.den), evalFn (c29 N) an29 Try.f29 (codeOf Try.f29) g29 x (fun p => (p.1.1, p.1.2.1)) = m_keys_After_a (m_keys_After_l0 N N) x.1 := by
  intro N
  intro x
  obtain ⟨x0, xu⟩ := x
  have e : evalFn (c29 N) an29 Try.f29 (codeOf Try.f29) g29 (x0, xu) (fun p => (p.1.1, p.1.2.1)) = m_keys_After_a (fun w0 => loopAt (c29 N) a29 [1, 1, 1, 0, 0] [] (codeOf Try.f29) (k29 N) N (h29_0 w0)) x0 := by kernel_rfl
  refine e.trans ?_
  have e0 : (fun w0 => loopAt (c29 N) a29 [1, 1, 1, 0, 0] [] (codeOf Try.f29) (k29 N) N (h29_0 w0)) = m_keys_After_l0 N N := by
    funext w0; exact t29_0 N N w0
  rw [e0]
theorem ev29 : ∀ x : g29.ps.den, evalFn (c29 FUEL) an29 Try.f29 (codeOf Try.f29) g29 x (fun p => (p.1.1, p.1.2.1)) = g29.m x := fun x => ew29 FUEL x
theorem meets29 : Meets Try.prog 29 g29 :=
  meets_of (C := c29 FUEL) (ann := an29) (mkC_ok (gs := [(10, g10)]) (is := []) (mt := mtL) tysOK elemOK ⟨meets10, trivial⟩ trivial mtOK FUEL) mixed Try.func29 (by kernel_rfl) (by kernel_rfl) (by kernel_rfl) (of_decide_eq_true (by kernel_rfl)) (fun p => (p.1.1, p.1.2.1)) (fun _ _ => ⟨rfl, rfl⟩) ev29
def c24 (N : Nat) : Cx := mkC tyL [(29, g29)] [] mtL N
def g24 : Sig := ⟨(.cons (.pure .str) (.cons (.pure .str) (.cons (.pure (.int .i64)) .nl))), (.cons (.pure .bool) .nl), Bool, fun x => m_ticketlinelaw05_after x.1 x.2.1 x.2.2.1, fun _ y => (y, ()), fun _ y => ((), ((), ((), ())))⟩
def an24 : Nat → Ann := mkA []
theorem ev24 : ∀ x : g24.ps.den, evalFn (c24 FUEL) an24 Try.f24 (codeOf Try.f24) g24 x (fun p => p.1.1) = g24.m x := by
  intro x
  obtain ⟨x0, x1, x2, xu⟩ := x
  show _ = _
  kernel_rfl
theorem meets24 : Meets Try.prog 24 g24 :=
  meets_of (C := c24 FUEL) (ann := an24) (mkC_ok (gs := [(29, g29)]) (is := []) (mt := mtL) tysOK elemOK ⟨meets29, trivial⟩ trivial mtOK FUEL) mixed Try.func24 (by kernel_rfl) (by kernel_rfl) (by kernel_rfl) (of_decide_eq_true (by kernel_rfl)) (fun p => p.1.1) (fun _ _ => ⟨rfl, rfl⟩) ev24
def c30 (N : Nat) : Cx := mkC tyL [(10, g10), (14, g14), (16, g16)] [] mtL N
def g30 : Sig := ⟨(.cons (.pure .str) (.cons (.pure .str) .nl)), (.cons (.pure .str) (.cons (.pure (.int .i64)) .nl)), (ByteArray × Int), fun x => m_keys_Between x.1 x.2.1, fun _ y => (y.1, (y.2, ())), fun _ y => ((), ((), ()))⟩
def an30 : Nat → Ann := mkA []
theorem ev30 : ∀ x : g30.ps.den, evalFn (c30 FUEL) an30 Try.f30 (codeOf Try.f30) g30 x (fun p => (p.1.1, p.1.2.1)) = g30.m x := by
  intro x
  obtain ⟨x0, x1, xu⟩ := x
  show _ = _
  kernel_rfl
theorem meets30 : Meets Try.prog 30 g30 :=
  meets_of (C := c30 FUEL) (ann := an30) (mkC_ok (gs := [(10, g10), (14, g14), (16, g16)]) (is := []) (mt := mtL) tysOK elemOK ⟨meets10, meets14, meets16, trivial⟩ trivial mtOK FUEL) mixed Try.func30 (by kernel_rfl) (by kernel_rfl) (by kernel_rfl) (of_decide_eq_true (by kernel_rfl)) (fun p => (p.1.1, p.1.2.1)) (fun _ _ => ⟨rfl, rfl⟩) ev30
def c25 (N : Nat) : Cx := mkC tyL [(30, g30)] [] mtL N
def g25 : Sig := ⟨(.cons (.pure .str) (.cons (.pure .str) (.cons (.pure .str) (.cons (.pure (.int .i64)) .nl)))), (.cons (.pure .bool) .nl), Bool, fun x => m_ticketlinelaw05_between x.1 x.2.1 x.2.2.1 x.2.2.2.1, fun _ y => (y, ()), fun _ y => ((), ((), ((), ((), ()))))⟩
def an25 : Nat → Ann := mkA []
theorem ev25 : ∀ x : g25.ps.den, evalFn (c25 FUEL) an25 Try.f25 (codeOf Try.f25) g25 x (fun p => p.1.1) = g25.m x := by
  intro x
  obtain ⟨x0, x1, x2, x3, xu⟩ := x
  show _ = _
  kernel_rfl
theorem meets25 : Meets Try.prog 25 g25 :=
  meets_of (C := c25 FUEL) (ann := an25) (mkC_ok (gs := [(30, g30)]) (is := []) (mt := mtL) tysOK elemOK ⟨meets30, trivial⟩ trivial mtOK FUEL) mixed Try.func25 (by kernel_rfl) (by kernel_rfl) (by kernel_rfl) (of_decide_eq_true (by kernel_rfl)) (fun p => p.1.1) (fun _ _ => ⟨rfl, rfl⟩) ev25
def c8 (N : Nat) : Cx := mkC tyL [(10, g10), (12, g12), (14, g14), (16, g16), (17, g17), (19, g19), (21, g21), (24, g24), (25, g25), (28, g28), (31, g31)] [] mtL N
def g8 : Sig := ⟨.nl, (.cons (.pure .bool) .nl), Bool, fun x => m_ticketlinelaw05_known, fun _ y => (y, ()), fun _ y => ()⟩
def an8 : Nat → Ann := mkA []
theorem ev8 : ∀ x : g8.ps.den, evalFn (c8 FUEL) an8 Try.f8 (codeOf Try.f8) g8 x (fun p => p.1.1) = g8.m x := by
  intro x
  show _ = _
  kernel_rfl
theorem meets8 : Meets Try.prog 8 g8 :=
  meets_of (C := c8 FUEL) (ann := an8) (mkC_ok (gs := [(10, g10), (12, g12), (14, g14), (16, g16), (17, g17), (19, g19), (21, g21), (24, g24), (25, g25), (28, g28), (31, g31)]) (is := []) (mt := mtL) tysOK elemOK ⟨meets10, meets12, meets14, meets16, meets17, meets19, meets21, meets24, meets25, meets28, meets31, trivial⟩ trivial mtOK FUEL) mixed Try.func8 (by kernel_rfl) (by kernel_rfl) (by kernel_rfl) (of_decide_eq_true (by kernel_rfl)) (fun p => p.1.1) (fun _ _ => ⟨rfl, rfl⟩) ev8
def c32 (N : Nat) : Cx := mkC tyL [] [] mtL N
def g32 : Sig := ⟨(.cons (.pure .str) (.cons (.pure .str) .nl)), (.cons (.pure .bool) .nl), Bool, fun x => m_internal_stringslite_HasPrefix x.1 x.2.1, fun _ y => (y, ()), fun _ y => ((), ((), ()))⟩
def an32 : Nat → Ann := mkA []
theorem ev32 : ∀ x : g32.ps.den, evalFn (c32 FUEL) an32 Try.f32 (codeOf Try.f32) g32 x (fun p => p.1.1) = g32.m x := by
  intro x
  obtain ⟨x0, x1, xu⟩ := x
  show _ = _
  kernel_rfl
theorem meets32 : Meets Try.prog 32 g32 :=
  meets_of (C := c32 FUEL) (ann := an32) (mkC_ok (gs := []) (is := []) (mt := mtL) tysOK elemOK trivial trivial mtOK FUEL) mixed Try.func32 (by kernel_rfl) (by kernel_rfl) (by kernel_rfl) (of_decide_eq_true (by kernel_rfl)) (fun p => p.1.1) (fun _ _ => ⟨rfl, rfl⟩) ev32
def c9 (N : Nat) : Cx := mkC tyL [(32, g32)] [] mtL N
def g9 : Sig := ⟨(.cons (.pure .str) (.cons (.pure .str) .nl)), (.cons (.pure .bool) .nl), Bool, fun x => m_strings_HasPrefix x.1 x.2.1, fun _ y => (y, ()), fun _ y => ((), ((), ()))⟩
def an9 : Nat → Ann := mkA []
theorem ev9 : ∀ x : g9.ps.den, evalFn (c9 FUEL) an9 Try.f9 (codeOf Try.f9) g9 x (fun p => p.1.1) = g9.m x := by
  intro x
  obtain ⟨x0, x1, xu⟩ := x
  show _ = _
  kernel_rfl
theorem meets9 : Meets Try.prog 9 g9 :=
  meets_of (C := c9 FUEL) (ann := an9) (mkC_ok (gs := [(32, g32)]) (is := []) (mt := mtL) tysOK elemOK ⟨meets32, trivial⟩ trivial mtOK FUEL) mixed Try.func9 (by kernel_rfl) (by kernel_rfl) (by kernel_rfl) (of_decide_eq_true (by kernel_rfl)) (fun p => p.1.1) (fun _ _ => ⟨rfl, rfl⟩) ev9
def c11 (N : Nat) : Cx := mkC tyL [] [] mtL N
def g11 : Sig := ⟨(.cons (.pure .str) .nl), (.cons (.pure .bool) .nl), Bool, fun x => m_ticketlineref05_Key x.1, fun _ y => (y, ()), fun _ y => ((), ())⟩
def an11 : Nat → Ann := mkA []
theorem ev11 : ∀ x : g11.ps.den, evalFn (c11 FUEL) an11 Try.f11 (codeOf Try.f11) g11 x (fun p => p.1.1) = g11.m x := by
  intro x
  obtain ⟨x0, xu⟩ := x
  show _ = _
  kernel_rfl
theorem meets11 : Meets Try.prog 11 g11 :=
  meets_of (C := c11 FUEL) (ann := an11) (mkC_ok (gs := []) (is := []) (mt := mtL) tysOK elemOK trivial trivial mtOK FUEL) mixed Try.func11 (by kernel_rfl) (by kernel_rfl) (by kernel_rfl) (of_decide_eq_true (by kernel_rfl)) (fun p => p.1.1) (fun _ _ => ⟨rfl, rfl⟩) ev11
def c13 (N : Nat) : Cx := mkC tyL [] [] mtL N
def g13 : Sig := ⟨(.cons (.pure .str) .nl), (.cons (.pure .bool) .nl), Bool, fun x => m_ticketlineref05_Value x.1, fun _ y => (y, ()), fun _ y => ((), ())⟩
def an13 : Nat → Ann := mkA []
theorem ev13 : ∀ x : g13.ps.den, evalFn (c13 FUEL) an13 Try.f13 (codeOf Try.f13) g13 x (fun p => p.1.1) = g13.m x := by
  intro x
  obtain ⟨x0, xu⟩ := x
  show _ = _
  kernel_rfl
theorem meets13 : Meets Try.prog 13 g13 :=
  meets_of (C := c13 FUEL) (ann := an13) (mkC_ok (gs := []) (is := []) (mt := mtL) tysOK elemOK trivial trivial mtOK FUEL) mixed Try.func13 (by kernel_rfl) (by kernel_rfl) (by kernel_rfl) (of_decide_eq_true (by kernel_rfl)) (fun p => p.1.1) (fun _ _ => ⟨rfl, rfl⟩) ev13
def c15 (N : Nat) : Cx := mkC tyL [] [] mtL N
def g15 : Sig := ⟨(.cons (.pure .str) (.cons (.pure .str) .nl)), (.cons (.pure (.int .i64)) .nl), Int, fun x => m_ticketlineref05_Compare x.1 x.2.1, fun _ y => (y, ()), fun _ y => ((), ((), ()))⟩
def an15 : Nat → Ann := mkA [(2, ⟨[0, 1, 5], [], [], false⟩)]
noncomputable def k15 (N : Nat) : Ex → St → Option Int := finK (c15 N) Try.f15 g15 (.cons .top (.cons .top .nl)) (fun p => p.1.1)
def a15 : Nat → Ann := annP [] an15
def h15_0 (u0_0 : ByteArray) (u0_1 : ByteArray) (u0_2 : Int) : St := ⟨44, [(0, (.str u0_0)), (1, (.str u0_1)), (5, (.int .i64 u0_2))], []⟩
theorem t15_0 : ∀ (N : Nat) (n : Nat) (u0_0 : ByteArray) (u0_1 : ByteArray) (u0_2 : Int), loopAt (c15 N) a15 [1, 0, 1, 0] [] (codeOf Try.f15) (k15 N) n (h15_0 u0_0 u0_1 u0_2) = m_ticketlineref05_Compare_l0 N n u0_0 u0_1 u0_2 := by
  intro N n
  induction n with
  | zero => intro u0_0 u0_1 u0_2; kernel_rfl
  | succ n ih =>
    intro u0_0 u0_1 u0_2
    have e : loopAt (c15 N) a15 [1, 0, 1, 0] [] (codeOf Try.f15) (k15 N) (n + 1) (h15_0 u0_0 u0_1 u0_2) = m_ticketlineref05_Compare_l0_b (fun w0 w1 w2 => loopAt (c15 N) a15 [1, 0, 1, 0] [] (codeOf Try.f15) (k15 N) n (h15_0 w0 w1 w2)) u0_0 u0_1 u0_2 := by kernel_rfl
    refine e.trans ?_
    have es : (fun w0 w1 w2 => loopAt (c15 N) a15 [1, 0, 1, 0] [] (codeOf Try.f15) (k15 N) n (h15_0 w0 w1 w2)) = m_ticketlineref05_Compare_l0 N n := by
      funext w0 w1 w2; exact ih w0 w1 w2
    rw [es]
    rw [m_ticketlineref05_Compare_l0]
theorem ew15 : ∀ (N : Nat) (x : g15.ps.den), evalFn (c15 N) an15 Try.f15 (codeOf Try.f15) g15 x (fun p => p.1.1) = m_ticketlineref05_Compare_a (m_ticketlineref05_Compare_l0 N N) x.1 x.2.1 := by
  intro N
  intro x
  obtain ⟨x0, x1, xu⟩ := x
  have e : evalFn (c15 N) an15 Try.f15 (codeOf Try.f15) g15 (x0, x1, xu) (fun p => p.1.1) = m_ticketlineref05_Compare_a (fun w0 w1 w2 => loopAt (c15 N) a15 [1, 0, 1, 0] [] (codeOf Try.f15) (k15 N) N (h15_0 w0 w1 w2)) x0 x1 := by kernel_rfl
  refine e.trans ?_
  have e0 : (fun w0 w1 w2 => loopAt (c15 N) a15 [1, 0, 1, 0] [] (codeOf Try.f15) (k15 N) N (h15_0 w0 w1 w2)) = m_ticketlineref05_Compare_l0 N N := by
    funext w0 w1 w2; exact t15_0 N N w0 w1 w2
  rw [e0]
theorem ev15 : ∀ x : g15.ps.den, evalFn (c15 FUEL) an15 Try.f15 (codeOf Try.f15) g15 x (fun p => p.1.1) = g15.m x := fun x => ew15 FUEL x
theorem meets15 : Meets Try.prog 15 g15 :=
  meets_of (C := c15 FUEL) (ann := an15) (mkC_ok (gs := []) (is := []) (mt := mtL) tysOK elemOK trivial trivial mtOK FUEL) mixed Try.func15 (by kernel_rfl) (by kernel_rfl) (by kernel_rfl) (of_decide_eq_true (by kernel_rfl)) (fun p => p.1.1) (fun _ _ => ⟨rfl, rfl⟩) ev15
def c3 (N : Nat) : Cx := mkC tyL [(8, g8), (9, g9), (10, g10), (11, g11), (12, g12), (13, g13), (14, g14), (15, g15), (16, g16)] [] mtL N
def g3 : Sig := ⟨(.cons (.pure .str) (.cons (.pure .str) .nl)), (.cons (.pure .bool) .nl), Bool, fun x => m_ticketlinelaw05_KeysOrders x.1 x.2.1, fun _ y => (y, ()), fun _ y => ((), ((), ()))⟩
def an3 : Nat → Ann := mkA [(4, ⟨[0, 1, 5], [], [], false⟩)]
noncomputable def k3 (N : Nat) : Ex → St → Option Bool := finK (c3 N) Try.f3 g3 (.cons .top (.cons .top .nl)) (fun p => p.1.1)
def a3 : Nat → Ann := annP [] an3
def h3_0 (u0_0 : ByteArray) (u0_1 : ByteArray) (u0_2 : Int) : St := ⟨76, [(0, (.str u0_0)), (1, (.str u0_1)), (5, (.int .i64 u0_2))], []⟩
theorem t3_0 : ∀ (N : Nat) (n : Nat) (u0_0 : ByteArray) (u0_1 : ByteArray) (u0_2 : Int), loopAt (c3 N) a3 [1, 1, 1, 0, 0] [] (codeOf Try.f3) (k3 N) n (h3_0 u0_0 u0_1 u0_2) = m_ticketlinelaw05_KeysOrders_l0 N n u0_0 u0_1 u0_2 := by
  intro N n
  induction n with
  | zero => intro u0_0 u0_1 u0_2; kernel_rfl
  | succ n ih =>
    intro u0_0 u0_1 u0_2
    have e : loopAt (c3 N) a3 [1, 1, 1, 0, 0] [] (codeOf Try.f3) (k3 N) (n + 1) (h3_0 u0_0 u0_1 u0_2) = m_ticketlinelaw05_KeysOrders_l0_b (fun w0 w1 w2 => loopAt (c3 N) a3 [1, 1, 1, 0, 0] [] (codeOf Try.f3) (k3 N) n (h3_0 w0 w1 w2)) u0_0 u0_1 u0_2 := by kernel_rfl
    refine e.trans ?_
    have es : (fun w0 w1 w2 => loopAt (c3 N) a3 [1, 1, 1, 0, 0] [] (codeOf Try.f3) (k3 N) n (h3_0 w0 w1 w2)) = m_ticketlinelaw05_KeysOrders_l0 N n := by
      funext w0 w1 w2; exact ih w0 w1 w2
    rw [es]
    rw [m_ticketlinelaw05_KeysOrders_l0]
theorem ew3 : ∀ (N : Nat) (x : g3.ps.den), evalFn (c3 N) an3 Try.f3 (codeOf Try.f3) g3 x (fun p => p.1.1) = m_ticketlinelaw05_KeysOrders_a (m_ticketlinelaw05_KeysOrders_l0 N N) x.1 x.2.1 := by
  intro N
  intro x
  obtain ⟨x0, x1, xu⟩ := x
  have e : evalFn (c3 N) an3 Try.f3 (codeOf Try.f3) g3 (x0, x1, xu) (fun p => p.1.1) = m_ticketlinelaw05_KeysOrders_a (fun w0 w1 w2 => loopAt (c3 N) a3 [1, 1, 1, 0, 0] [] (codeOf Try.f3) (k3 N) N (h3_0 w0 w1 w2)) x0 x1 := by kernel_rfl
  refine e.trans ?_
  have e0 : (fun w0 w1 w2 => loopAt (c3 N) a3 [1, 1, 1, 0, 0] [] (codeOf Try.f3) (k3 N) N (h3_0 w0 w1 w2)) = m_ticketlinelaw05_KeysOrders_l0 N N := by
    funext w0 w1 w2; exact t3_0 N N w0 w1 w2
  rw [e0]
theorem ev3 : ∀ x : g3.ps.den, evalFn (c3 FUEL) an3 Try.f3 (codeOf Try.f3) g3 x (fun p => p.1.1) = g3.m x := fun x => ew3 FUEL x
theorem meets3 : Meets Try.prog 3 g3 :=
  meets_of (C := c3 FUEL) (ann := an3) (mkC_ok (gs := [(8, g8), (9, g9), (10, g10), (11, g11), (12, g12), (13, g13), (14, g14), (15, g15), (16, g16)]) (is := []) (mt := mtL) tysOK elemOK ⟨meets8, meets9, meets10, meets11, meets12, meets13, meets14, meets15, meets16, trivial⟩ trivial mtOK FUEL) mixed Try.func3 (by kernel_rfl) (by kernel_rfl) (by kernel_rfl) (of_decide_eq_true (by kernel_rfl)) (fun p => p.1.1) (fun _ _ => ⟨rfl, rfl⟩) ev3
def c18 (N : Nat) : Cx := mkC tyL [] [] mtL N
def g18 : Sig := ⟨(.cons (.pure (.int .i64)) .nl), (.cons (.pure (.int .i64)) .nl), Int, fun x => m_ticketlineref05_Words x.1, fun _ y => (y, ()), fun _ y => ((), ())⟩
def an18 : Nat → Ann := mkA []
theorem ev18 : ∀ x : g18.ps.den, evalFn (c18 FUEL) an18 Try.f18 (codeOf Try.f18) g18 x (fun p => p.1.1) = g18.m x := by
  intro x
  obtain ⟨x0, xu⟩ := x
  show _ = _
  kernel_rfl
theorem meets18 : Meets Try.prog 18 g18 :=
  meets_of (C := c18 FUEL) (ann := an18) (mkC_ok (gs := []) (is := []) (mt := mtL) tysOK elemOK trivial trivial mtOK FUEL) mixed Try.func18 (by kernel_rfl) (by kernel_rfl) (by kernel_rfl) (of_decide_eq_true (by kernel_rfl)) (fun p => p.1.1) (fun _ _ => ⟨rfl, rfl⟩) ev18
def c20 (N : Nat) : Cx := mkC tyL [] [] mtL N
def g20 : Sig := ⟨(.cons (.pure .str) .nl), (.cons (.own (.int .u64)) .nl), (List Int), fun x => m_ticketlineref05_Pack x.1, fun _ y => (y, ()), fun _ y => ((), ())⟩
def an20 : Nat → Ann := mkA [(3, ⟨[0, 4], [(3, (.int .u64))], [], false⟩), (9, ⟨[0, 4, 5, 6], [(3, (.int .u64))], [], false⟩)]
noncomputable def k20 (N : Nat) : Ex → St → Option (List Int) := finK (c20 N) Try.f20 g20 (.cons .top .nl) (fun p => p.1.1)
def a20 : Nat → Ann := annP [] an20
def h20_1 (u1_0 : ByteArray) (u1_1 : Int) (u1_2 : Int) (u1_3 : Int) (u1_4 : (List Int)) : St := ⟨43, [(3, .full 300003), (0, (.str u1_0)), (4, (.int .i64 u1_1)), (5, (.int .u64 u1_2)), (6, (.int .i64 u1_3))], [(300003, (.bk (.int .u64) u1_4))]⟩
def h20_0 (u0_0 : ByteArray) (u0_1 : Int) (u0_2 : (List Int)) : St := ⟨43, [(3, .full 300003), (0, (.str u0_0)), (4, (.int .i64 u0_1))], [(300003, (.bk (.int .u64) u0_2))]⟩
theorem t20_1 : ∀ (N : Nat) (m0 : Nat) (n : Nat) (u1_0 : ByteArray) (u1_1 : Int) (u1_2 : Int) (u1_3 : Int) (u1_4 : (List Int)), loopAt (c20 N) a20 [1, 1, 0, 1, 0, 0, 1, 0, 0, 1, 1, 0, 1, 0] [m0] (codeOf Try.f20) (k20 N) n (h20_1 u1_0 u1_1 u1_2 u1_3 u1_4) = m_ticketlineref05_Pack_l1 N (fun w0 w1 w2 => loopAt (c20 N) a20 [1, 1, 0, 1, 0] [] (codeOf Try.f20) (k20 N) m0 (h20_0 w0 w1 w2)) n u1_0 u1_1 u1_2 u1_3 u1_4 := by
  intro N m0 n
  induction n with
  | zero => intro u1_0 u1_1 u1_2 u1_3 u1_4; kernel_rfl
  | succ n ih =>
    intro u1_0 u1_1 u1_2 u1_3 u1_4
    have e : loopAt (c20 N) a20 [1, 1, 0, 1, 0, 0, 1, 0, 0, 1, 1, 0, 1, 0] [m0] (codeOf Try.f20) (k20 N) (n + 1) (h20_1 u1_0 u1_1 u1_2 u1_3 u1_4) = m_ticketlineref05_Pack_l1_b (fun w0 w1 w2 => loopAt (c20 N) a20 [1, 1, 0, 1, 0] [] (codeOf Try.f20) (k20 N) m0 (h20_0 w0 w1 w2)) (fun w0 w1 w2 w3 w4 => loopAt (c20 N) a20 [1, 1, 0, 1, 0, 0, 1, 0, 0, 1, 1, 0, 1, 0] [m0] (codeOf Try.f20) (k20 N) n (h20_1 w0 w1 w2 w3 w4)) u1_0 u1_1 u1_2 u1_3 u1_4 := by kernel_rfl
    refine e.trans ?_
    have es : (fun w0 w1 w2 w3 w4 => loopAt (c20 N) a20 [1, 1, 0, 1, 0, 0, 1, 0, 0, 1, 1, 0, 1, 0] [m0] (codeOf Try.f20) (k20 N) n (h20_1 w0 w1 w2 w3 w4)) = m_ticketlineref05_Pack_l1 N (fun w0 w1 w2 => loopAt (c20 N) a20 [1, 1, 0, 1, 0] [] (codeOf Try.f20) (k20 N) m0 (h20_0 w0 w1 w2)) n := by
      funext w0 w1 w2 w3 w4; exact ih w0 w1 w2 w3 w4
    rw [es]
    rw [m_ticketlineref05_Pack_l1]
theorem t20_0 : ∀ (N : Nat) (n : Nat) (u0_0 : ByteArray) (u0_1 : Int) (u0_2 : (List Int)), loopAt (c20 N) a20 [1, 1, 0, 1, 0] [] (codeOf Try.f20) (k20 N) n (h20_0 u0_0 u0_1 u0_2) = m_ticketlineref05_Pack_l0 N n u0_0 u0_1 u0_2 := by
  intro N n
  induction n with
  | zero => intro u0_0 u0_1 u0_2; kernel_rfl
  | succ n ih =>
    intro u0_0 u0_1 u0_2
    have e : loopAt (c20 N) a20 [1, 1, 0, 1, 0] [] (codeOf Try.f20) (k20 N) (n + 1) (h20_0 u0_0 u0_1 u0_2) = m_ticketlineref05_Pack_l0_b (fun w0 w1 w2 => loopAt (c20 N) a20 [1, 1, 0, 1, 0] [] (codeOf Try.f20) (k20 N) n (h20_0 w0 w1 w2)) (fun w0 w1 w2 w3 w4 => loopAt (c20 N) a20 [1, 1, 0, 1, 0, 0, 1, 0, 0, 1, 1, 0, 1, 0] [n] (codeOf Try.f20) (k20 N) N (h20_1 w0 w1 w2 w3 w4)) u0_0 u0_1 u0_2 := by kernel_rfl
    refine e.trans ?_
    have e1 : (fun w0 w1 w2 w3 w4 => loopAt (c20 N) a20 [1, 1, 0, 1, 0, 0, 1, 0, 0, 1, 1, 0, 1, 0] [n] (codeOf Try.f20) (k20 N) N (h20_1 w0 w1 w2 w3 w4)) = m_ticketlineref05_Pack_l1 N (fun w0 w1 w2 => loopAt (c20 N) a20 [1, 1, 0, 1, 0] [] (codeOf Try.f20) (k20 N) n (h20_0 w0 w1 w2)) N := by
      funext w0 w1 w2 w3 w4; exact t20_1 N n N w0 w1 w2 w3 w4
    rw [e1]
    have es : (fun w0 w1 w2 => loopAt (c20 N) a20 [1, 1, 0, 1, 0] [] (codeOf Try.f20) (k20 N) n (h20_0 w0 w1 w2)) = m_ticketlineref05_Pack_l0 N n := by
      funext w0 w1 w2; exact ih w0 w1 w2
    rw [es]
    rw [m_ticketlineref05_Pack_l0]
theorem ew20 : ∀ (N : Nat) (x : g20.ps.den), evalFn (c20 N) an20 Try.f20 (codeOf Try.f20) g20 x (fun p => p.1.1) = m_ticketlineref05_Pack_a (m_ticketlineref05_Pack_l0 N N) x.1 := by
  intro N
  intro x
  obtain ⟨x0, xu⟩ := x
  have e : evalFn (c20 N) an20 Try.f20 (codeOf Try.f20) g20 (x0, xu) (fun p => p.1.1) = m_ticketlineref05_Pack_a (fun w0 w1 w2 => loopAt (c20 N) a20 [1, 1, 0, 1, 0] [] (codeOf Try.f20) (k20 N) N (h20_0 w0 w1 w2)) x0 := by kernel_rfl
  refine e.trans ?_
  have e0 : (fun w0 w1 w2 => loopAt (c20 N) a20 [1, 1, 0, 1, 0] [] (codeOf Try.f20) (k20 N) N (h20_0 w0 w1 w2)) = m_ticketlineref05_Pack_l0 N N := by
    funext w0 w1 w2; exact t20_0 N N w0 w1 w2
  rw [e0]
theorem ev20 : ∀ x : g20.ps.den, evalFn (c20 FUEL) an20 Try.f20 (codeOf Try.f20) g20 x (fun p => p.1.1) = g20.m x := fun x => ew20 FUEL x
theorem meets20 : Meets Try.prog 20 g20 :=
  meets_of (C := c20 FUEL) (ann := an20) (mkC_ok (gs := []) (is := []) (mt := mtL) tysOK elemOK trivial trivial mtOK FUEL) mixed Try.func20 (by kernel_rfl) (by kernel_rfl) (by kernel_rfl) (of_decide_eq_true (by kernel_rfl)) (fun p => p.1.1) (fun _ _ => ⟨rfl, rfl⟩) ev20
def c4 (N : Nat) : Cx := mkC tyL [(8, g8), (13, g13), (17, g17), (18, g18), (19, g19), (20, g20), (21, g21)] [] mtL N
def g4 : Sig := ⟨(.cons (.pure .str) (.cons (.pure (.int .i64)) .nl)), (.cons (.pure .bool) .nl), Bool, fun x => m_ticketlinelaw05_KeysPacks x.1 x.2.1, fun _ y => (y, ()), fun _ y => ((), ((), ()))⟩
def an4 : Nat → Ann := mkA []
theorem ev4 : ∀ x : g4.ps.den, evalFn (c4 FUEL) an4 Try.f4 (codeOf Try.f4) g4 x (fun p => p.1.1) = g4.m x := by
  intro x
  obtain ⟨x0, x1, xu⟩ := x
  show _ = _
  kernel_rfl
theorem meets4 : Meets Try.prog 4 g4 :=
  meets_of (C := c4 FUEL) (ann := an4) (mkC_ok (gs := [(8, g8), (13, g13), (17, g17), (18, g18), (19, g19), (20, g20), (21, g21)]) (is := []) (mt := mtL) tysOK elemOK ⟨meets8, meets13, meets17, meets18, meets19, meets20, meets21, trivial⟩ trivial mtOK FUEL) mixed Try.func4 (by kernel_rfl) (by kernel_rfl) (by kernel_rfl) (of_decide_eq_true (by kernel_rfl)) (fun p => p.1.1) (fun _ _ => ⟨rfl, rfl⟩) ev4
def c22 (N : Nat) : Cx := mkC tyL [(18, g18), (20, g20)] [] mtL N
def g22 : Sig := ⟨(.cons (.pure (.sl (.int .u64))) (.cons (.pure (.int .i64)) .nl)), (.cons (.pure .str) (.cons (.pure (.int .i64)) .nl)), (ByteArray × Int), fun x => m_ticketlineref05_Unpack x.1 x.2.1, fun _ y => (y.1, (y.2, ())), fun _ y => ((), ((), ()))⟩
def an22 : Nat → Ann := mkA [(9, ⟨[0, 1, 7], [(6, (.int .u8))], [], false⟩), (13, ⟨[0, 1, 6, 7, 8, 9], [], [300006], false⟩), (19, ⟨[0, 6, 10, 11], [], [300006, 201504], false⟩)]
noncomputable def k22 (N : Nat) : Ex → St → Option (ByteArray × Int) := finK (c22 N) Try.f22 g22 (.cons .top (.cons .top .nl)) (fun p => (p.1.1, p.1.2.1))
def a22 : Nat → Ann := annP [] an22
def h22_1 (u1_0 : (List Int)) (u1_1 : Int) (u1_2 : Int) (u1_3 : Int) (u1_4 : Int) (u1_5 : (List Int)) : St := ⟨65, [(0, (.lst (.int .u64) u1_0)), (1, (.int .i64 u1_1)), (6, (.full 300006)), (7, (.int .i64 u1_2)), (8, (.int .u64 u1_3)), (9, (.int .i64 u1_4))], [(300006, (.bk (.int .u8) u1_5))]⟩
def h22_2 (u2_0 : (List Int)) (u2_1 : Int) (u2_2 : (List Int)) (u2_3 : (List Int)) : St := ⟨65, [(0, (.lst (.int .u64) u2_0)), (6, (.full 300006)), (10, (.full 201504)), (11, (.int .i64 u2_1))], [(300006, (.bk (.int .u8) u2_2)), (201504, (.bk (.int .u64) u2_3))]⟩
def h22_0 (u0_0 : (List Int)) (u0_1 : Int) (u0_2 : Int) (u0_3 : (List Int)) : St := ⟨65, [(6, .full 300006), (0, (.lst (.int .u64) u0_0)), (1, (.int .i64 u0_1)), (7, (.int .i64 u0_2))], [(300006, (.bk (.int .u8) u0_3))]⟩
theorem t22_1 : ∀ (N : Nat) (m0 : Nat) (n : Nat) (u1_0 : (List Int)) (u1_1 : Int) (u1_2 : Int) (u1_3 : Int) (u1_4 : Int) (u1_5 : (List Int)), loopAt (c22 N) a22 [1, 1, 1, 1, 1, 0, 1, 0, 0, 1, 0, 0, 1, 0, 1, 0] [m0] (codeOf Try.f22) (k22 N) n (h22_1 u1_0 u1_1 u1_2 u1_3 u1_4 u1_5) = m_ticketlineref05_Unpack_l1 N (fun w0 w1 w2 w3 => loopAt (c22 N) a22 [1, 1, 1, 1, 1, 0, 1, 0] [] (codeOf Try.f22) (k22 N) m0 (h22_0 w0 w1 w2 w3)) n u1_0 u1_1 u1_2 u1_3 u1_4 u1_5 := by
  intro N m0 n
  induction n with
  | zero => intro u1_0 u1_1 u1_2 u1_3 u1_4 u1_5; kernel_rfl
  | succ n ih =>
    intro u1_0 u1_1 u1_2 u1_3 u1_4 u1_5
    have e : loopAt (c22 N) a22 [1, 1, 1, 1, 1, 0, 1, 0, 0, 1, 0, 0, 1, 0, 1, 0] [m0] (codeOf Try.f22) (k22 N) (n + 1) (h22_1 u1_0 u1_1 u1_2 u1_3 u1_4 u1_5) = m_ticketlineref05_Unpack_l1_b (fun w0 w1 w2 w3 => loopAt (c22 N) a22 [1, 1, 1, 1, 1, 0, 1, 0] [] (codeOf Try.f22) (k22 N) m0 (h22_0 w0 w1 w2 w3)) (fun w0 w1 w2 w3 w4 w5 => loopAt (c22 N) a22 [1, 1, 1, 1, 1, 0, 1, 0, 0, 1, 0, 0, 1, 0, 1, 0] [m0] (codeOf Try.f22) (k22 N) n (h22_1 w0 w1 w2 w3 w4 w5)) u1_0 u1_1 u1_2 u1_3 u1_4 u1_5 := by kernel_rfl
    refine e.trans ?_
    have es : (fun w0 w1 w2 w3 w4 w5 => loopAt (c22 N) a22 [1, 1, 1, 1, 1, 0, 1, 0, 0, 1, 0, 0, 1, 0, 1, 0] [m0] (codeOf Try.f22) (k22 N) n (h22_1 w0 w1 w2 w3 w4 w5)) = m_ticketlineref05_Unpack_l1 N (fun w0 w1 w2 w3 => loopAt (c22 N) a22 [1, 1, 1, 1, 1, 0, 1, 0] [] (codeOf Try.f22) (k22 N) m0 (h22_0 w0 w1 w2 w3)) n := by
      funext w0 w1 w2 w3 w4 w5; exact ih w0 w1 w2 w3 w4 w5
    rw [es]
    rw [m_ticketlineref05_Unpack_l1]
theorem t22_2 : ∀ (N : Nat) (n : Nat) (u2_0 : (List Int)) (u2_1 : Int) (u2_2 : (List Int)) (u2_3 : (List Int)), loopAt (c22 N) a22 [1, 1, 1, 1, 1, 1, 1, 0, 1, 0] [] (codeOf Try.f22) (k22 N) n (h22_2 u2_0 u2_1 u2_2 u2_3) = m_ticketlineref05_Unpack_l2 N n u2_0 u2_1 u2_2 u2_3 := by
  intro N n
  induction n with
  | zero => intro u2_0 u2_1 u2_2 u2_3; kernel_rfl
  | succ n ih =>
    intro u2_0 u2_1 u2_2 u2_3
    have e : loopAt (c22 N) a22 [1, 1, 1, 1, 1, 1, 1, 0, 1, 0] [] (codeOf Try.f22) (k22 N) (n + 1) (h22_2 u2_0 u2_1 u2_2 u2_3) = m_ticketlineref05_Unpack_l2_b (fun w0 w1 w2 w3 => loopAt (c22 N) a22 [1, 1, 1, 1, 1, 1, 1, 0, 1, 0] [] (codeOf Try.f22) (k22 N) n (h22_2 w0 w1 w2 w3)) u2_0 u2_1 u2_2 u2_3 := by kernel_rfl
    refine e.trans ?_
    have es : (fun w0 w1 w2 w3 => loopAt (c22 N) a22 [1, 1, 1, 1, 1, 1, 1, 0, 1, 0] [] (codeOf Try.f22) (k22 N) n (h22_2 w0 w1 w2 w3)) = m_ticketlineref05_Unpack_l2 N n := by
      funext w0 w1 w2 w3; exact ih w0 w1 w2 w3
    rw [es]
    rw [m_ticketlineref05_Unpack_l2]
theorem t22_0 : ∀ (N : Nat) (n : Nat) (u0_0 : (List Int)) (u0_1 : Int) (u0_2 : Int) (u0_3 : (List Int)), loopAt (c22 N) a22 [1, 1, 1, 1, 1, 0, 1, 0] [] (codeOf Try.f22) (k22 N) n (h22_0 u0_0 u0_1 u0_2 u0_3) = m_ticketlineref05_Unpack_l0 N n u0_0 u0_1 u0_2 u0_3 := by
  intro N n
  induction n with
  | zero => intro u0_0 u0_1 u0_2 u0_3; kernel_rfl
  | succ n ih =>
    intro u0_0 u0_1 u0_2 u0_3
    have e : loopAt (c22 N) a22 [1, 1, 1, 1, 1, 0, 1, 0] [] (codeOf Try.f22) (k22 N) (n + 1) (h22_0 u0_0 u0_1 u0_2 u0_3) = m_ticketlineref05_Unpack_l0_b (fun w0 w1 w2 w3 => loopAt (c22 N) a22 [1, 1, 1, 1, 1, 0, 1, 0] [] (codeOf Try.f22) (k22 N) n (h22_0 w0 w1 w2 w3)) (fun w0 w1 w2 w3 w4 w5 => loopAt (c22 N) a22 [1, 1, 1, 1, 1, 0, 1, 0, 0, 1, 0, 0, 1, 0, 1, 0] [n] (codeOf Try.f22) (k22 N) N (h22_1 w0 w1 w2 w3 w4 w5)) (fun w0 w1 w2 w3 => loopAt (c22 N) a22 [1, 1, 1, 1, 1, 1, 1, 0, 1, 0] [] (codeOf Try.f22) (k22 N) N (h22_2 w0 w1 w2 w3)) u0_0 u0_1 u0_2 u0_3 := by kernel_rfl
    refine e.trans ?_
    have e1 : (fun w0 w1 w2 w3 w4 w5 => loopAt (c22 N) a22 [1, 1, 1, 1, 1, 0, 1, 0, 0, 1, 0, 0, 1, 0, 1, 0] [n] (codeOf Try.f22) (k22 N) N (h22_1 w0 w1 w2 w3 w4 w5)) = m_ticketlineref05_Unpack_l1 N (fun w0 w1 w2 w3 => loopAt (c22 N) a22 [1, 1, 1, 1, 1, 0, 1, 0] [] (codeOf Try.f22) (k22 N) n (h22_0 w0 w1 w2 w3)) N := by
      funext w0 w1 w2 w3 w4 w5; exact t22_1 N n N w0 w1 w2 w3 w4 w5
    rw [e1]
    have e2 : (fun w0 w1 w2 w3 => loopAt (c22 N) a22 [1, 1, 1, 1, 1, 1, 1, 0, 1, 0] [] (codeOf Try.f22) (k22 N) N (h22_2 w0 w1 w2 w3)) = m_ticketlineref05_Unpack_l2 N N := by
      funext w0 w1 w2 w3; exact t22_2 N N w0 w1 w2 w3
    rw [e2]
    have es : (fun w0 w1 w2 w3 => loopAt (c22 N) a22 [1, 1, 1, 1, 1, 0, 1, 0] [] (codeOf Try.f22) (k22 N) n (h22_0 w0 w1 w2 w3)) = m_ticketlineref05_Unpack_l0 N n := by
      funext w0 w1 w2 w3; exact ih w0 w1 w2 w3
    rw [es]
    rw [m_ticketlineref05_Unpack_l0]
theorem ew22 : ∀ (N : Nat) (x : g22.ps.den), evalFn (c22 N) an22 Try.f22 (codeOf Try.f22) g22 x (fun p => (p.1.1, p.1.2.1)) = m_ticketlineref05_Unpack_a (m_ticketlineref05_Unpack_l0 N N) x.1 x.2.1 := by
  intro N
  intro x
  obtain ⟨x0, x1, xu⟩ := x
  have e : evalFn (c22 N) an22 Try.f22 (codeOf Try.f22) g22 (x0, x1, xu) (fun p => (p.1.1, p.1.2.1)) = m_ticketlineref05_Unpack_a (fun w0 w1 w2 w3 => loopAt (c22 N) a22 [1, 1, 1, 1, 1, 0, 1, 0] [] (codeOf Try.f22) (k22 N) N (h22_0 w0 w1 w2 w3)) x0 x1 := by kernel_rfl
  refine e.trans ?_
  have e0 : (fun w0 w1 w2 w3 => loopAt (c22 N) a22 [1, 1, 1, 1, 1, 0, 1, 0] [] (codeOf Try.f22) (k22 N) N (h22_0 w0 w1 w2 w3)) = m_ticketlineref05_Unpack_l0 N N := by
    funext w0 w1 w2 w3; exact t22_0 N N w0 w1 w2 w3
  rw [e0]
theorem ev22 : ∀ x : g22.ps.den, evalFn (c22 FUEL) an22 Try.f22 (codeOf Try.f22) g22 x (fun p => (p.1.1, p.1.2.1)) = g22.m x := fun x => ew22 FUEL x
theorem meets22 : Meets Try.prog 22 g22 :=
  meets_of (C := c22 FUEL) (ann := an22) (mkC_ok (gs := [(18, g18), (20, g20)]) (is := []) (mt := mtL) tysOK elemOK ⟨meets18, meets20, trivial⟩ trivial mtOK FUEL) mixed Try.func22 (by kernel_rfl) (by kernel_rfl) (by kernel_rfl) (of_decide_eq_true (by kernel_rfl)) (fun p => (p.1.1, p.1.2.1)) (fun _ _ => ⟨rfl, rfl⟩) ev22
def c5 (N : Nat) : Cx := mkC tyL [(8, g8), (21, g21), (22, g22), (23, g23)] [] mtL N
def g5 : Sig := ⟨(.cons (.pure (.sl (.int .u64))) (.cons (.pure (.int .i64)) .nl)), (.cons (.pure .bool) .nl), Bool, fun x => m_ticketlinelaw05_KeysUnpacks x.1 x.2.1, fun _ y => (y, ()), fun _ y => ((), ((), ()))⟩
def an5 : Nat → Ann := mkA []
theorem ev5 : ∀ x : g5.ps.den, evalFn (c5 FUEL) an5 Try.f5 (codeOf Try.f5) g5 x (fun p => p.1.1) = g5.m x := by
  intro x
  obtain ⟨x0, x1, xu⟩ := x
  show _ = _
  kernel_rfl
theorem meets5 : Meets Try.prog 5 g5 :=
  meets_of (C := c5 FUEL) (ann := an5) (mkC_ok (gs := [(8, g8), (21, g21), (22, g22), (23, g23)]) (is := []) (mt := mtL) tysOK elemOK ⟨meets8, meets21, meets22, meets23, trivial⟩ trivial mtOK FUEL) mixed Try.func5 (by kernel_rfl) (by kernel_rfl) (by kernel_rfl) (of_decide_eq_true (by kernel_rfl)) (fun p => p.1.1) (fun _ _ => ⟨rfl, rfl⟩) ev5
def c26 (N : Nat) : Cx := mkC tyL [] [] mtL N
def g26 : Sig := ⟨(.cons (.pure .str) .nl), (.cons (.pure .str) (.cons (.pure (.int .i64)) .nl)), (ByteArray × Int), fun x => m_ticketlineref05_After x.1, fun _ y => (y.1, (y.2, ())), fun _ y => ((), ())⟩
def an26 : Nat → Ann := mkA [(4, ⟨[0, 4], [], [], false⟩)]
noncomputable def k26 (N : Nat) : Ex → St → Option (ByteArray × Int) := finK (c26 N) Try.f26 g26 (.cons .top .nl) (fun p => (p.1.1, p.1.2.1))
def a26 : Nat → Ann := annP [] an26
def h26_0 (u0_0 : ByteArray) (u0_1 : Int) : St := ⟨39, [(0, (.str u0_0)), (4, (.int .i64 u0_1))], []⟩
theorem t26_0 : ∀ (N : Nat) (n : Nat) (u0_0 : ByteArray) (u0_1 : Int), loopAt (c26 N) a26 [1, 1, 1, 0, 0] [] (codeOf Try.f26) (k26 N) n (h26_0 u0_0 u0_1) = m_ticketlineref05_After_l0 N n u0_0 u0_1 := by
  intro N n
  induction n with
  | zero => intro u0_0 u0_1; kernel_rfl
  | succ n ih =>
    intro u0_0 u0_1
    have e : loopAt (c26 N) a26 [1, 1, 1, 0, 0] [] (codeOf Try.f26) (k26 N) (n + 1) (h26_0 u0_0 u0_1) = m_ticketlineref05_After_l0_b (fun w0 w1 => loopAt (c26 N) a26 [1, 1, 1, 0, 0] [] (codeOf Try.f26) (k26 N) n (h26_0 w0 w1)) u0_0 u0_1 := by kernel_rfl
    refine e.trans ?_
    have es : (fun w0 w1 => loopAt (c26 N) a26 [1, 1, 1, 0, 0] [] (codeOf Try.f26) (k26 N) n (h26_0 w0 w1)) = m_ticketlineref05_After_l0 N n := by
      funext w0 w1; exact ih w0 w1
    rw [es]
    rw [m_ticketlineref05_After_l0]
theorem ew26 : ∀ (N : Nat) (x : g26.ps.den), evalFn (c26 N) an26 Try.f26 (codeOf Try.f26) g26 x (fun p => (p.1.1, p.1.2.1)) = m_ticketlineref05_After_a (m_ticketlineref05_After_l0 N N) x.1 := by
  intro N
  intro x
  obtain ⟨x0, xu⟩ := x
  have e : evalFn (c26 N) an26 Try.f26 (codeOf Try.f26) g26 (x0, xu) (fun p => (p.1.1, p.1.2.1)) = m_ticketlineref05_After_a (fun w0 w1 => loopAt (c26 N) a26 [1, 1, 1, 0, 0] [] (codeOf Try.f26) (k26 N) N (h26_0 w0 w1)) x0 := by kernel_rfl
  refine e.trans ?_
  have e0 : (fun w0 w1 => loopAt (c26 N) a26 [1, 1, 1, 0, 0] [] (codeOf Try.f26) (k26 N) N (h26_0 w0 w1)) = m_ticketlineref05_After_l0 N N := by
    funext w0 w1; exact t26_0 N N w0 w1
  rw [e0]
theorem ev26 : ∀ x : g26.ps.den, evalFn (c26 FUEL) an26 Try.f26 (codeOf Try.f26) g26 x (fun p => (p.1.1, p.1.2.1)) = g26.m x := fun x => ew26 FUEL x
theorem meets26 : Meets Try.prog 26 g26 :=
  meets_of (C := c26 FUEL) (ann := an26) (mkC_ok (gs := []) (is := []) (mt := mtL) tysOK elemOK trivial trivial mtOK FUEL) mixed Try.func26 (by kernel_rfl) (by kernel_rfl) (by kernel_rfl) (of_decide_eq_true (by kernel_rfl)) (fun p => (p.1.1, p.1.2.1)) (fun _ _ => ⟨rfl, rfl⟩) ev26
def c27 (N : Nat) : Cx := mkC tyL [(15, g15)] [] mtL N
def g27 : Sig := ⟨(.cons (.pure .str) (.cons (.pure .str) .nl)), (.cons (.pure .str) (.cons (.pure (.int .i64)) .nl)), (ByteArray × Int), fun x => m_ticketlineref05_Between x.1 x.2.1, fun _ y => (y.1, (y.2, ())), fun _ y => ((), ((), ()))⟩
def an27 : Nat → Ann := mkA [(4, ⟨[0, 1, 6], [], [], false⟩)]
noncomputable def k27 (N : Nat) : Ex → St → Option (ByteArray × Int) := finK (c27 N) Try.f27 g27 (.cons .top (.cons .top .nl)) (fun p => (p.1.1, p.1.2.1))
def a27 : Nat → Ann := annP [] an27
def h27_0 (u0_0 : ByteArray) (u0_1 : ByteArray) (u0_2 : Int) : St := ⟨22, [(0, (.str u0_0)), (1, (.str u0_1)), (6, (.int .i64 u0_2))], []⟩
theorem t27_0 : ∀ (N : Nat) (n : Nat) (u0_0 : ByteArray) (u0_1 : ByteArray) (u0_2 : Int), loopAt (c27 N) a27 [1, 1, 1, 0, 0] [] (codeOf Try.f27) (k27 N) n (h27_0 u0_0 u0_1 u0_2) = m_ticketlineref05_Between_l0 N n u0_0 u0_1 u0_2 := by
  intro N n
  induction n with
  | zero => intro u0_0 u0_1 u0_2; kernel_rfl
  | succ n ih =>
    intro u0_0 u0_1 u0_2
    have e : loopAt (c27 N) a27 [1, 1, 1, 0, 0] [] (codeOf Try.f27) (k27 N) (n + 1) (h27_0 u0_0 u0_1 u0_2) = m_ticketlineref05_Between_l0_b (fun w0 w1 w2 => loopAt (c27 N) a27 [1, 1, 1, 0, 0] [] (codeOf Try.f27) (k27 N) n (h27_0 w0 w1 w2)) u0_0 u0_1 u0_2 := by kernel_rfl
    refine e.trans ?_
    have es : (fun w0 w1 w2 => loopAt (c27 N) a27 [1, 1, 1, 0, 0] [] (codeOf Try.f27) (k27 N) n (h27_0 w0 w1 w2)) = m_ticketlineref05_Between_l0 N n := by
      funext w0 w1 w2; exact ih w0 w1 w2
    rw [es]
    rw [m_ticketlineref05_Between_l0]
theorem ew27 : ∀ (N : Nat) (x : g27.ps.den), evalFn (c27 N) an27 Try.f27 (codeOf Try.f27) g27 x (fun p => (p.1.1, p.1.2.1)) = m_ticketlineref05_Between_a (m_ticketlineref05_Between_l0 N N) x.1 x.2.1 := by
  intro N
  intro x
  obtain ⟨x0, x1, xu⟩ := x
  have e : evalFn (c27 N) an27 Try.f27 (codeOf Try.f27) g27 (x0, x1, xu) (fun p => (p.1.1, p.1.2.1)) = m_ticketlineref05_Between_a (fun w0 w1 w2 => loopAt (c27 N) a27 [1, 1, 1, 0, 0] [] (codeOf Try.f27) (k27 N) N (h27_0 w0 w1 w2)) x0 x1 := by kernel_rfl
  refine e.trans ?_
  have e0 : (fun w0 w1 w2 => loopAt (c27 N) a27 [1, 1, 1, 0, 0] [] (codeOf Try.f27) (k27 N) N (h27_0 w0 w1 w2)) = m_ticketlineref05_Between_l0 N N := by
    funext w0 w1 w2; exact t27_0 N N w0 w1 w2
  rw [e0]
theorem ev27 : ∀ x : g27.ps.den, evalFn (c27 FUEL) an27 Try.f27 (codeOf Try.f27) g27 x (fun p => (p.1.1, p.1.2.1)) = g27.m x := fun x => ew27 FUEL x
theorem meets27 : Meets Try.prog 27 g27 :=
  meets_of (C := c27 FUEL) (ann := an27) (mkC_ok (gs := [(15, g15)]) (is := []) (mt := mtL) tysOK elemOK ⟨meets15, trivial⟩ trivial mtOK FUEL) mixed Try.func27 (by kernel_rfl) (by kernel_rfl) (by kernel_rfl) (of_decide_eq_true (by kernel_rfl)) (fun p => (p.1.1, p.1.2.1)) (fun _ _ => ⟨rfl, rfl⟩) ev27
def c6 (N : Nat) : Cx := mkC tyL [(8, g8), (11, g11), (24, g24), (25, g25), (26, g26), (27, g27)] [] mtL N
def g6 : Sig := ⟨(.cons (.pure .str) (.cons (.pure .str) .nl)), (.cons (.pure .bool) .nl), Bool, fun x => m_ticketlinelaw05_KeysNexts x.1 x.2.1, fun _ y => (y, ()), fun _ y => ((), ((), ()))⟩
def an6 : Nat → Ann := mkA []
theorem ev6 : ∀ x : g6.ps.den, evalFn (c6 FUEL) an6 Try.f6 (codeOf Try.f6) g6 x (fun p => p.1.1) = g6.m x := by
  intro x
  obtain ⟨x0, x1, xu⟩ := x
  show _ = _
  kernel_rfl
theorem meets6 : Meets Try.prog 6 g6 :=
  meets_of (C := c6 FUEL) (ann := an6) (mkC_ok (gs := [(8, g8), (11, g11), (24, g24), (25, g25), (26, g26), (27, g27)]) (is := []) (mt := mtL) tysOK elemOK ⟨meets8, meets11, meets24, meets25, meets26, meets27, trivial⟩ trivial mtOK FUEL) mixed Try.func6 (by kernel_rfl) (by kernel_rfl) (by kernel_rfl) (of_decide_eq_true (by kernel_rfl)) (fun p => p.1.1) (fun _ _ => ⟨rfl, rfl⟩) ev6
def c7 (N : Nat) : Cx := mkC tyL [(8, g8), (9, g9), (10, g10), (12, g12), (14, g14), (16, g16), (17, g17), (21, g21), (28, g28), (29, g29), (30, g30)] [] mtL N
def g7 : Sig := ⟨(.cons (.pure .str) (.cons (.pure .str) (.cons (.pure .str) .nl))), (.cons (.pure .bool) .nl), Bool, fun x => m_ticketlinelaw05_KeysHolds x.1 x.2.1 x.2.2.1, fun _ y => (y, ()), fun _ y => ((), ((), ((), ())))⟩
def an7 : Nat → Ann := mkA [(1000006, ⟨[0, 1, 2, 7], [], [], true⟩), (1000007, ⟨[0, 1, 2, 7, 8, 9], [], [202336], true⟩), (1000008, ⟨[0, 1, 2, 7, 8, 9, 10, 11], [], [202336, 202496], true⟩), (1000010, ⟨[0, 1, 2, 7, 8, 9, 10, 11], [], [202336, 202496], true⟩), (1000013, ⟨[0, 1, 2, 7, 8, 10], [], [202336, 202496], true⟩), (1000014, ⟨[0, 1, 2, 7, 8, 10, 125, 126], [], [202336, 202496], true⟩), (14, ⟨[0, 1, 2, 7, 8, 10, 125, 126], [], [202336, 202496], false⟩), (1000020, ⟨[0, 1, 2, 7], [], [], true⟩), (1000021, ⟨[0, 1, 2, 7, 13, 14], [], [], true⟩), (1000023, ⟨[0, 1, 7], [], [], true⟩), (1000024, ⟨[0, 1, 7, 9, 15], [], [], true⟩), (1000026, ⟨[0, 1, 9, 15], [], [], true⟩), (1000028, ⟨[0, 1, 15], [], [], true⟩), (1000030, ⟨[0, 15], [], [], true⟩)]
noncomputable def k7 (N : Nat) : Ex → St → Option Bool := finK (c7 N) Try.f7 g7 (.cons .top (.cons .top (.cons .top .nl))) (fun p => p.1.1)
def a7 : Nat → Ann := annP [] an7
def h7_13 (u13_0 : ByteArray) (u13_1 : ByteArray) : St := ⟨257, [(0, (.str u13_0)), (15, (.str u13_1))], []⟩
def h7_12 (u12_0 : ByteArray) (u12_1 : ByteArray) (u12_2 : ByteArray) : St := ⟨257, [(0, (.str u12_0)), (1, (.str u12_1)), (15, (.str u12_2))], []⟩
def h7_11 (u11_0 : ByteArray) (u11_1 : ByteArray) (u11_2 : Int) (u11_3 : ByteArray) : St := ⟨257, [(0, (.str u11_0)), (1, (.str u11_1)), (9, (.int .i64 u11_2)), (15, (.str u11_3))], []⟩
def h7_10 (u10_0 : ByteArray) (u10_1 : ByteArray) (u10_2 : Int) (u10_3 : Int) (u10_4 : ByteArray) : St := ⟨257, [(0, (.str u10_0)), (1, (.str u10_1)), (7, (.int .i64 u10_2)), (9, (.int .i64 u10_3)), (15, (.str u10_4))], []⟩
def h7_9 (u9_0 : ByteArray) (u9_1 : ByteArray) (u9_2 : Int) : St := ⟨257, [(0, (.str u9_0)), (1, (.str u9_1)), (7, (.int .i64 u9_2))], []⟩
def h7_8 (u8_0 : ByteArray) (u8_1 : ByteArray) (u8_2 : ByteArray) (u8_3 : Int) (u8_4 : ByteArray) (u8_5 : Int) : St := ⟨257, [(0, (.str u8_0)), (1, (.str u8_1)), (2, (.str u8_2)), (7, (.int .i64 u8_3)), (13, (.str u8_4)), (14, (.int .i64 u8_5))], []⟩
def h7_7 (u7_0 : ByteArray) (u7_1 : ByteArray) (u7_2 : ByteArray) (u7_3 : Int) : St := ⟨257, [(0, (.str u7_0)), (1, (.str u7_1)), (2, (.str u7_2)), (7, (.int .i64 u7_3))], []⟩
def h7_6 (u6_0 : ByteArray) (u6_1 : ByteArray) (u6_2 : ByteArray) (u6_3 : Int) (u6_4 : Int) (u6_5 : Int) (u6_6 : (List Int)) (u6_7 : (List Int)) : St := ⟨257, [(0, (.str u6_0)), (1, (.str u6_1)), (2, (.str u6_2)), (7, (.int .i64 u6_3)), (8, (.full 202336)), (10, (.full 202496)), (125, (.int .i64 u6_4)), (126, (.int .i64 u6_5))], [(202336, (.bk (.int .u64) u6_6)), (202496, (.bk (.int .u64) u6_7))]⟩
def h7_5 (u5_0 : ByteArray) (u5_1 : ByteArray) (u5_2 : ByteArray) (u5_3 : Int) (u5_4 : Int) (u5_5 : Int) (u5_6 : (List Int)) (u5_7 : (List Int)) : St := ⟨257, [(0, (.str u5_0)), (1, (.str u5_1)), (2, (.str u5_2)), (7, (.int .i64 u5_3)), (8, (.full 202336)), (10, (.full 202496)), (125, (.int .i64 u5_4)), (126, (.int .i64 u5_5))], [(202336, (.bk (.int .u64) u5_6)), (202496, (.bk (.int .u64) u5_7))]⟩
def h7_4 (u4_0 : ByteArray) (u4_1 : ByteArray) (u4_2 : ByteArray) (u4_3 : Int) (u4_4 : (List Int)) (u4_5 : (List Int)) : St := ⟨257, [(0, (.str u4_0)), (1, (.str u4_1)), (2, (.str u4_2)), (7, (.int .i64 u4_3)), (8, (.full 202336)), (10, (.full 202496))], [(202336, (.bk (.int .u64) u4_4)), (202496, (.bk (.int .u64) u4_5))]⟩
def h7_3 (u3_0 : ByteArray) (u3_1 : ByteArray) (u3_2 : ByteArray) (u3_3 : Int) (u3_4 : Int) (u3_5 : Int) (u3_6 : (List Int)) (u3_7 : (List Int)) : St := ⟨257, [(0, (.str u3_0)), (1, (.str u3_1)), (2, (.str u3_2)), (7, (.int .i64 u3_3)), (8, (.full 202336)), (9, (.int .i64 u3_4)), (10, (.full 202496)), (11, (.int .i64 u3_5))], [(202336, (.bk (.int .u64) u3_6)), (202496, (.bk (.int .u64) u3_7))]⟩
def h7_2 (u2_0 : ByteArray) (u2_1 : ByteArray) (u2_2 : ByteArray) (u2_3 : Int) (u2_4 : Int) (u2_5 : Int) (u2_6 : (List Int)) (u2_7 : (List Int)) : St := ⟨257, [(0, (.str u2_0)), (1, (.str u2_1)), (2, (.str u2_2)), (7, (.int .i64 u2_3)), (8, (.full 202336)), (9, (.int .i64 u2_4)), (10, (.full 202496)), (11, (.int .i64 u2_5))], [(202336, (.bk (.int .u64) u2_6)), (202496, (.bk (.int .u64) u2_7))]⟩
def h7_1 (u1_0 : ByteArray) (u1_1 : ByteArray) (u1_2 : ByteArray) (u1_3 : Int) (u1_4 : Int) (u1_5 : (List Int)) : St := ⟨257, [(0, (.str u1_0)), (1, (.str u1_1)), (2, (.str u1_2)), (7, (.int .i64 u1_3)), (8, (.full 202336)), (9, (.int .i64 u1_4))], [(202336, (.bk (.int .u64) u1_5))]⟩
def h7_0 (u0_0 : ByteArray) (u0_1 : ByteArray) (u0_2 : ByteArray) (u0_3 : Int) : St := ⟨257, [(0, (.str u0_0)), (1, (.str u0_1)), (2, (.str u0_2)), (7, (.int .i64 u0_3))], []⟩
theorem t7_13 : ∀ (N : Nat) (u13_0 : ByteArray) (u13_1 : ByteArray), cutAt (c7 N) a7 [1, 1, 1, 1, 1, 1, 1, 1, 1, 1, 1, 1, 1] [] (codeOf Try.f7) (k7 N) (h7_13 u13_0 u13_1) = m_ticketlinelaw05_KeysHolds_l13 N u13_0 u13_1 := by
  intro N u13_0 u13_1
  have e : cutAt (c7 N) a7 [1, 1, 1, 1, 1, 1, 1, 1, 1, 1, 1, 1, 1] [] (codeOf Try.f7) (k7 N) (h7_13 u13_0 u13_1) = m_ticketlinelaw05_KeysHolds_l13_b u13_0 u13_1 := by kernel_rfl
  refine e.trans ?_
  rfl
theorem t7_12 : ∀ (N : Nat) (u12_0 : ByteArray) (u12_1 : ByteArray) (u12_2 : ByteArray), cutAt (c7 N) a7 [1, 1, 1, 1, 1, 1, 1, 1, 1, 1, 1, 1] [] (codeOf Try.f7) (k7 N) (h7_12 u12_0 u12_1 u12_2) = m_ticketlinelaw05_KeysHolds_l12 N u12_0 u12_1 u12_2 := by
  intro N u12_0 u12_1 u12_2
  have e : cutAt (c7 N) a7 [1, 1, 1, 1, 1, 1, 1, 1, 1, 1, 1, 1] [] (codeOf Try.f7) (k7 N) (h7_12 u12_0 u12_1 u12_2) = m_ticketlinelaw05_KeysHolds_l12_b (fun w0 w1 => cutAt (c7 N) a7 [1, 1, 1, 1, 1, 1, 1, 1, 1, 1, 1, 1, 1] [] (codeOf Try.f7) (k7 N) (h7_13 w0 w1)) u12_0 u12_1 u12_2 := by kernel_rfl
  refine e.trans ?_
  have e13 : (fun w0 w1 => cutAt (c7 N) a7 [1, 1, 1, 1, 1, 1, 1, 1, 1, 1, 1, 1, 1] [] (codeOf Try.f7) (k7 N) (h7_13 w0 w1)) = m_ticketlinelaw05_KeysHolds_l13 N := by
    funext w0 w1; exact t7_13 N w0 w1
  rw [e13]
  rfl
theorem t7_11 : ∀ (N : Nat) (u11_0 : ByteArray) (u11_1 : ByteArray) (u11_2 : Int) (u11_3 : ByteArray), cutAt (c7 N) a7 [1, 1, 1, 1, 1, 1, 1, 1, 1, 1, 1] [] (codeOf Try.f7) (k7 N) (h7_11 u11_0 u11_1 u11_2 u11_3) = m_ticketlinelaw05_KeysHolds_l11 N u11_0 u11_1 u11_2 u11_3 := by
  intro N u11_0 u11_1 u11_2 u11_3
  have e : cutAt (c7 N) a7 [1, 1, 1, 1, 1, 1, 1, 1, 1, 1, 1] [] (codeOf Try.f7) (k7 N) (h7_11 u11_0 u11_1 u11_2 u11_3) = m_ticketlinelaw05_KeysHolds_l11_b (fun w0 w1 w2 => cutAt (c7 N) a7 [1, 1, 1, 1, 1, 1, 1, 1, 1, 1, 1, 1] [] (codeOf Try.f7) (k7 N) (h7_12 w0 w1 w2)) u11_0 u11_1 u11_2 u11_3 := by kernel_rfl
  refine e.trans ?_
  have e12 : (fun w0 w1 w2 => cutAt (c7 N) a7 [1, 1, 1, 1, 1, 1, 1, 1, 1, 1, 1, 1] [] (codeOf Try.f7) (k7 N) (h7_12 w0 w1 w2)) = m_ticketlinelaw05_KeysHolds_l12 N := by
    funext w0 w1 w2; exact t7_12 N w0 w1 w2
  rw [e12]
  rfl
theorem t7_10 : ∀ (N : Nat) (u10_0 : ByteArray) (u10_1 : ByteArray) (u10_2 : Int) (u10_3 : Int) (u10_4 : ByteArray), cutAt (c7 N) a7 [1, 1, 1, 1, 1, 1, 1, 1, 1, 1] [] (codeOf Try.f7) (k7 N) (h7_10 u10_0 u10_1 u10_2 u10_3 u10_4) = m_ticketlinelaw05_KeysHolds_l10 N u10_0 u10_1 u10_2 u10_3 u10_4 := by
  intro N u10_0 u10_1 u10_2 u10_3 u10_4
  have e : cutAt (c7 N) a7 [1, 1, 1, 1, 1, 1, 1, 1, 1, 1] [] (codeOf Try.f7) (k7 N) (h7_10 u10_0 u10_1 u10_2 u10_3 u10_4) = m_ticketlinelaw05_KeysHolds_l10_b (fun w0 w1 w2 w3 => cutAt (c7 N) a7 [1, 1, 1, 1, 1, 1, 1, 1, 1, 1, 1] [] (codeOf Try.f7) (k7 N) (h7_11 w0 w1 w2 w3)) u10_0 u10_1 u10_2 u10_3 u10_4 := by kernel_rfl
  refine e.trans ?_
  have e11 : (fun w0 w1 w2 w3 => cutAt (c7 N) a7 [1, 1, 1, 1, 1, 1, 1, 1, 1, 1, 1] [] (codeOf Try.f7) (k7 N) (h7_11 w0 w1 w2 w3)) = m_ticketlinelaw05_KeysHolds_l11 N := by
    funext w0 w1 w2 w3; exact t7_11 N w0 w1 w2 w3
  rw [e11]
  rfl
theorem t7_9 : ∀ (N : Nat) (u9_0 : ByteArray) (u9_1 : ByteArray) (u9_2 : Int), cutAt (c7 N) a7 [1, 1, 1, 1, 1, 1, 1, 1, 1] [] (codeOf Try.f7) (k7 N) (h7_9 u9_0 u9_1 u9_2) = m_ticketlinelaw05_KeysHolds_l9 N u9_0 u9_1 u9_2 := by
  intro N u9_0 u9_1 u9_2
  have e : cutAt (c7 N) a7 [1, 1, 1, 1, 1, 1, 1, 1, 1] [] (codeOf Try.f7) (k7 N) (h7_9 u9_0 u9_1 u9_2) = m_ticketlinelaw05_KeysHolds_l9_b (fun w0 w1 w2 w3 w4 => cutAt (c7 N) a7 [1, 1, 1, 1, 1, 1, 1, 1, 1, 1] [] (codeOf Try.f7) (k7 N) (h7_10 w0 w1 w2 w3 w4)) u9_0 u9_1 u9_2 := by kernel_rfl
  refine e.trans ?_
  have e10 : (fun w0 w1 w2 w3 w4 => cutAt (c7 N) a7 [1, 1, 1, 1, 1, 1, 1, 1, 1, 1] [] (codeOf Try.f7) (k7 N) (h7_10 w0 w1 w2 w3 w4)) = m_ticketlinelaw05_KeysHolds_l10 N := by
    funext w0 w1 w2 w3 w4; exact t7_10 N w0 w1 w2 w3 w4
  rw [e10]
  rfl
theorem t7_8 : ∀ (N : Nat) (u8_0 : ByteArray) (u8_1 : ByteArray) (u8_2 : ByteArray) (u8_3 : Int) (u8_4 : ByteArray) (u8_5 : Int), cutAt (c7 N) a7 [1, 1, 1, 1, 1, 1, 1, 1, 0, 1] [] (codeOf Try.f7) (k7 N) (h7_8 u8_0 u8_1 u8_2 u8_3 u8_4 u8_5) = m_ticketlinelaw05_KeysHolds_l8 N u8_0 u8_1 u8_2 u8_3 u8_4 u8_5 := by
  intro N u8_0 u8_1 u8_2 u8_3 u8_4 u8_5
  have e : cutAt (c7 N) a7 [1, 1, 1, 1, 1, 1, 1, 1, 0, 1] [] (codeOf Try.f7) (k7 N) (h7_8 u8_0 u8_1 u8_2 u8_3 u8_4 u8_5) = m_ticketlinelaw05_KeysHolds_l8_b (fun w0 w1 w2 => cutAt (c7 N) a7 [1, 1, 1, 1, 1, 1, 1, 1, 1] [] (codeOf Try.f7) (k7 N) (h7_9 w0 w1 w2)) u8_0 u8_1 u8_2 u8_3 u8_4 u8_5 := by kernel_rfl
  refine e.trans ?_
  have e9 : (fun w0 w1 w2 => cutAt (c7 N) a7 [1, 1, 1, 1, 1, 1, 1, 1, 1] [] (codeOf Try.f7) (k7 N) (h7_9 w0 w1 w2)) = m_ticketlinelaw05_KeysHolds_l9 N := by
    funext w0 w1 w2; exact t7_9 N w0 w1 w2
  rw [e9]
  rfl
theorem t7_7 : ∀ (N : Nat) (u7_0 : ByteArray) (u7_1 : ByteArray) (u7_2 : ByteArray) (u7_3 : Int), cutAt (c7 N) a7 [1, 1, 1, 1, 1, 1, 1, 1] [] (codeOf Try.f7) (k7 N) (h7_7 u7_0 u7_1 u7_2 u7_3) = m_ticketlinelaw05_KeysHolds_l7 N u7_0 u7_1 u7_2 u7_3 := by
  intro N u7_0 u7_1 u7_2 u7_3
  have e : cutAt (c7 N) a7 [1, 1, 1, 1, 1, 1, 1, 1] [] (codeOf Try.f7) (k7 N) (h7_7 u7_0 u7_1 u7_2 u7_3) = m_ticketlinelaw05_KeysHolds_l7_b (fun w0 w1 w2 w3 w4 w5 => cutAt (c7 N) a7 [1, 1, 1, 1, 1, 1, 1, 1, 0, 1] [] (codeOf Try.f7) (k7 N) (h7_8 w0 w1 w2 w3 w4 w5)) u7_0 u7_1 u7_2 u7_3 := by kernel_rfl
  refine e.trans ?_
  have e8 : (fun w0 w1 w2 w3 w4 w5 => cutAt (c7 N) a7 [1, 1, 1, 1, 1, 1, 1, 1, 0, 1] [] (codeOf Try.f7) (k7 N) (h7_8 w0 w1 w2 w3 w4 w5)) = m_ticketlinelaw05_KeysHolds_l8 N := by
    funext w0 w1 w2 w3 w4 w5; exact t7_8 N w0 w1 w2 w3 w4 w5
  rw [e8]
  rfl
theorem t7_6 : ∀ (N : Nat) (n : Nat) (u6_0 : ByteArray) (u6_1 : ByteArray) (u6_2 : ByteArray) (u6_3 : Int) (u6_4 : Int) (u6_5 : Int) (u6_6 : (List Int)) (u6_7 : (List Int)), loopAt (c7 N) a7 [1, 1, 1, 1, 1, 1, 1, 0, 1, 0, 1, 1, 0] [] (codeOf Try.f7) (k7 N) n (h7_6 u6_0 u6_1 u6_2 u6_3 u6_4 u6_5 u6_6 u6_7) = m_ticketlinelaw05_KeysHolds_l6 N n u6_0 u6_1 u6_2 u6_3 u6_4 u6_5 u6_6 u6_7 := by
  intro N n
  induction n with
  | zero => intro u6_0 u6_1 u6_2 u6_3 u6_4 u6_5 u6_6 u6_7; kernel_rfl
  | succ n ih =>
    intro u6_0 u6_1 u6_2 u6_3 u6_4 u6_5 u6_6 u6_7
    have e : loopAt (c7 N) a7 [1, 1, 1, 1, 1, 1, 1, 0, 1, 0, 1, 1, 0] [] (codeOf Try.f7) (k7 N) (n + 1) (h7_6 u6_0 u6_1 u6_2 u6_3 u6_4 u6_5 u6_6 u6_7) = m_ticketlinelaw05_KeysHolds_l6_b (fun w0 w1 w2 w3 w4 w5 w6 w7 => loopAt (c7 N) a7 [1, 1, 1, 1, 1, 1, 1, 0, 1, 0, 1, 1, 0] [] (codeOf Try.f7) (k7 N) n (h7_6 w0 w1 w2 w3 w4 w5 w6 w7)) (fun w0 w1 w2 w3 => cutAt (c7 N) a7 [1, 1, 1, 1, 1, 1, 1, 1] [] (codeOf Try.f7) (k7 N) (h7_7 w0 w1 w2 w3)) u6_0 u6_1 u6_2 u6_3 u6_4 u6_5 u6_6 u6_7 := by kernel_rfl
    refine e.trans ?_
    have e7 : (fun w0 w1 w2 w3 => cutAt (c7 N) a7 [1, 1, 1, 1, 1, 1, 1, 1] [] (codeOf Try.f7) (k7 N) (h7_7 w0 w1 w2 w3)) = m_ticketlinelaw05_KeysHolds_l7 N := by
      funext w0 w1 w2 w3; exact t7_7 N w0 w1 w2 w3
    rw [e7]
    have es : (fun w0 w1 w2 w3 w4 w5 w6 w7 => loopAt (c7 N) a7 [1, 1, 1, 1, 1, 1, 1, 0, 1, 0, 1, 1, 0] [] (codeOf Try.f7) (k7 N) n (h7_6 w0 w1 w2 w3 w4 w5 w6 w7)) = m_ticketlinelaw05_KeysHolds_l6 N n := by
      funext w0 w1 w2 w3 w4 w5 w6 w7; exact ih w0 w1 w2 w3 w4 w5 w6 w7
    rw [es]
    rw [m_ticketlinelaw05_KeysHolds_l6]
theorem t7_5 : ∀ (N : Nat) (u5_0 : ByteArray) (u5_1 : ByteArray) (u5_2 : ByteArray) (u5_3 : Int) (u5_4 : Int) (u5_5 : Int) (u5_6 : (List Int)) (u5_7 : (List Int)), cutAt (c7 N) a7 [1, 1, 1, 1, 1, 1, 1, 0, 1, 0, 1, 1] [] (codeOf Try.f7) (k7 N) (h7_5 u5_0 u5_1 u5_2 u5_3 u5_4 u5_5 u5_6 u5_7) = m_ticketlinelaw05_KeysHolds_l5 N u5_0 u5_1 u5_2 u5_3 u5_4 u5_5 u5_6 u5_7 := by
  intro N u5_0 u5_1 u5_2 u5_3 u5_4 u5_5 u5_6 u5_7
  have e : cutAt (c7 N) a7 [1, 1, 1, 1, 1, 1, 1, 0, 1, 0, 1, 1] [] (codeOf Try.f7) (k7 N) (h7_5 u5_0 u5_1 u5_2 u5_3 u5_4 u5_5 u5_6 u5_7) = m_ticketlinelaw05_KeysHolds_l5_b (fun w0 w1 w2 w3 w4 w5 w6 w7 => loopAt (c7 N) a7 [1, 1, 1, 1, 1, 1, 1, 0, 1, 0, 1, 1, 0] [] (codeOf Try.f7) (k7 N) N (h7_6 w0 w1 w2 w3 w4 w5 w6 w7)) u5_0 u5_1 u5_2 u5_3 u5_4 u5_5 u5_6 u5_7 := by kernel_rfl
  refine e.trans ?_
  have e6 : (fun w0 w1 w2 w3 w4 w5 w6 w7 => loopAt (c7 N) a7 [1, 1, 1, 1, 1, 1, 1, 0, 1, 0, 1, 1, 0] [] (codeOf Try.f7) (k7 N) N (h7_6 w0 w1 w2 w3 w4 w5 w6 w7)) = m_ticketlinelaw05_KeysHolds_l6 N N := by
    funext w0 w1 w2 w3 w4 w5 w6 w7; exact t7_6 N N w0 w1 w2 w3 w4 w5 w6 w7
  rw [e6]
  rfl
theorem t7_4 : ∀ (N : Nat) (u4_0 : ByteArray) (u4_1 : ByteArray) (u4_2 : ByteArray) (u4_3 : Int) (u4_4 : (List Int)) (u4_5 : (List Int)), cutAt (c7 N) a7 [1, 1, 1, 1, 1, 1, 1, 0, 1, 0, 1] [] (codeOf Try.f7) (k7 N) (h7_4 u4_0 u4_1 u4_2 u4_3 u4_4 u4_5) = m_ticketlinelaw05_KeysHolds_l4 N u4_0 u4_1 u4_2 u4_3 u4_4 u4_5 := by
  intro N u4_0 u4_1 u4_2 u4_3 u4_4 u4_5
  have e : cutAt (c7 N) a7 [1, 1, 1, 1, 1, 1, 1, 0, 1, 0, 1] [] (codeOf Try.f7) (k7 N) (h7_4 u4_0 u4_1 u4_2 u4_3 u4_4 u4_5) = m_ticketlinelaw05_KeysHolds_l4_b (fun w0 w1 w2 w3 w4 w5 w6 w7 => cutAt (c7 N) a7 [1, 1, 1, 1, 1, 1, 1, 0, 1, 0, 1, 1] [] (codeOf Try.f7) (k7 N) (h7_5 w0 w1 w2 w3 w4 w5 w6 w7)) u4_0 u4_1 u4_2 u4_3 u4_4 u4_5 := by kernel_rfl
  refine e.trans ?_
  have e5 : (fun w0 w1 w2 w3 w4 w5 w6 w7 => cutAt (c7 N) a7 [1, 1, 1, 1, 1, 1, 1, 0, 1, 0, 1, 1] [] (codeOf Try.f7) (k7 N) (h7_5 w0 w1 w2 w3 w4 w5 w6 w7)) = m_ticketlinelaw05_KeysHolds_l5 N := by
    funext w0 w1 w2 w3 w4 w5 w6 w7; exact t7_5 N w0 w1 w2 w3 w4 w5 w6 w7
  rw [e5]
  rfl
theorem t7_3 : ∀ (N : Nat) (u3_0 : ByteArray) (u3_1 : ByteArray) (u3_2 : ByteArray) (u3_3 : Int) (u3_4 : Int) (u3_5 : Int) (u3_6 : (List Int)) (u3_7 : (List Int)), cutAt (c7 N) a7 [1, 1, 1, 1, 1, 1, 1] [] (codeOf Try.f7) (k7 N) (h7_3 u3_0 u3_1 u3_2 u3_3 u3_4 u3_5 u3_6 u3_7) = m_ticketlinelaw05_KeysHolds_l3 N u3_0 u3_1 u3_2 u3_3 u3_4 u3_5 u3_6 u3_7 := by
  intro N u3_0 u3_1 u3_2 u3_3 u3_4 u3_5 u3_6 u3_7
  have e : cutAt (c7 N) a7 [1, 1, 1, 1, 1, 1, 1] [] (codeOf Try.f7) (k7 N) (h7_3 u3_0 u3_1 u3_2 u3_3 u3_4 u3_5 u3_6 u3_7) = m_ticketlinelaw05_KeysHolds_l3_b (fun w0 w1 w2 w3 w4 w5 => cutAt (c7 N) a7 [1, 1, 1, 1, 1, 1, 1, 0, 1, 0, 1] [] (codeOf Try.f7) (k7 N) (h7_4 w0 w1 w2 w3 w4 w5)) (fun w0 w1 w2 w3 => cutAt (c7 N) a7 [1, 1, 1, 1, 1, 1, 1, 1] [] (codeOf Try.f7) (k7 N) (h7_7 w0 w1 w2 w3)) u3_0 u3_1 u3_2 u3_3 u3_4 u3_5 u3_6 u3_7 := by kernel_rfl
  refine e.trans ?_
  have e4 : (fun w0 w1 w2 w3 w4 w5 => cutAt (c7 N) a7 [1, 1, 1, 1, 1, 1, 1, 0, 1, 0, 1] [] (codeOf Try.f7) (k7 N) (h7_4 w0 w1 w2 w3 w4 w5)) = m_ticketlinelaw05_KeysHolds_l4 N := by
    funext w0 w1 w2 w3 w4 w5; exact t7_4 N w0 w1 w2 w3 w4 w5
  rw [e4]
  have e7 : (fun w0 w1 w2 w3 => cutAt (c7 N) a7 [1, 1, 1, 1, 1, 1, 1, 1] [] (codeOf Try.f7) (k7 N) (h7_7 w0 w1 w2 w3)) = m_ticketlinelaw05_KeysHolds_l7 N := by
    funext w0 w1 w2 w3; exact t7_7 N w0 w1 w2 w3
  rw [e7]
  rfl
theorem t7_2 : ∀ (N : Nat) (u2_0 : ByteArray) (u2_1 : ByteArray) (u2_2 : ByteArray) (u2_3 : Int) (u2_4 : Int) (u2_5 : Int) (u2_6 : (List Int)) (u2_7 : (List Int)), cutAt (c7 N) a7 [1, 1, 1, 1, 1, 1] [] (codeOf Try.f7) (k7 N) (h7_2 u2_0 u2_1 u2_2 u2_3 u2_4 u2_5 u2_6 u2_7) = m_ticketlinelaw05_KeysHolds_l2 N u2_0 u2_1 u2_2 u2_3 u2_4 u2_5 u2_6 u2_7 := by
  intro N u2_0 u2_1 u2_2 u2_3 u2_4 u2_5 u2_6 u2_7
  have e : cutAt (c7 N) a7 [1, 1, 1, 1, 1, 1] [] (codeOf Try.f7) (k7 N) (h7_2 u2_0 u2_1 u2_2 u2_3 u2_4 u2_5 u2_6 u2_7) = m_ticketlinelaw05_KeysHolds_l2_b (fun w0 w1 w2 w3 w4 w5 w6 w7 => cutAt (c7 N) a7 [1, 1, 1, 1, 1, 1, 1] [] (codeOf Try.f7) (k7 N) (h7_3 w0 w1 w2 w3 w4 w5 w6 w7)) u2_0 u2_1 u2_2 u2_3 u2_4 u2_5 u2_6 u2_7 := by kernel_rfl
  refine e.trans ?_
  have e3 : (fun w0 w1 w2 w3 w4 w5 w6 w7 => cutAt (c7 N) a7 [1, 1, 1, 1, 1, 1, 1] [] (codeOf Try.f7) (k7 N) (h7_3 w0 w1 w2 w3 w4 w5 w6 w7)) = m_ticketlinelaw05_KeysHolds_l3 N := by
    funext w0 w1 w2 w3 w4 w5 w6 w7; exact t7_3 N w0 w1 w2 w3 w4 w5 w6 w7
  rw [e3]
  rfl
theorem t7_1 : ∀ (N : Nat) (u1_0 : ByteArray) (u1_1 : ByteArray) (u1_2 : ByteArray) (u1_3 : Int) (u1_4 : Int) (u1_5 : (List Int)), cutAt (c7 N) a7 [1, 1, 1, 1, 1] [] (codeOf Try.f7) (k7 N) (h7_1 u1_0 u1_1 u1_2 u1_3 u1_4 u1_5) = m_ticketlinelaw05_KeysHolds_l1 N u1_0 u1_1 u1_2 u1_3 u1_4 u1_5 := by
  intro N u1_0 u1_1 u1_2 u1_3 u1_4 u1_5
  have e : cutAt (c7 N) a7 [1, 1, 1, 1, 1] [] (codeOf Try.f7) (k7 N) (h7_1 u1_0 u1_1 u1_2 u1_3 u1_4 u1_5) = m_ticketlinelaw05_KeysHolds_l1_b (fun w0 w1 w2 w3 w4 w5 w6 w7 => cutAt (c7 N) a7 [1, 1, 1, 1, 1, 1] [] (codeOf Try.f7) (k7 N) (h7_2 w0 w1 w2 w3 w4 w5 w6 w7)) u1_0 u1_1 u1_2 u1_3 u1_4 u1_5 := by kernel_rfl
  refine e.trans ?_
  have e2 : (fun w0 w1 w2 w3 w4 w5 w6 w7 => cutAt (c7 N) a7 [1, 1, 1, 1, 1, 1] [] (codeOf Try.f7) (k7 N) (h7_2 w0 w1 w2 w3 w4 w5 w6 w7)) = m_ticketlinelaw05_KeysHolds_l2 N := by
    funext w0 w1 w2 w3 w4 w5 w6 w7; exact t7_2 N w0 w1 w2 w3 w4 w5 w6 w7
  rw [e2]
  rfl
theorem t7_0 : ∀ (N : Nat) (u0_0 : ByteArray) (u0_1 : ByteArray) (u0_2 : ByteArray) (u0_3 : Int), cutAt (c7 N) a7 [1, 1, 1, 1] [] (codeOf Try.f7) (k7 N) (h7_0 u0_0 u0_1 u0_2 u0_3) = m_ticketlinelaw05_KeysHolds_l0 N u0_0 u0_1 u0_2 u0_3 := by
  intro N u0_0 u0_1 u0_2 u0_3
  have e : cutAt (c7 N) a7 [1, 1, 1, 1] [] (codeOf Try.f7) (k7 N) (h7_0 u0_0 u0_1 u0_2 u0_3) = m_ticketlinelaw05_KeysHolds_l0_b (fun w0 w1 w2 w3 w4 w5 => cutAt (c7 N) a7 [1, 1, 1, 1, 1] [] (codeOf Try.f7) (k7 N) (h7_1 w0 w1 w2 w3 w4 w5)) u0_0 u0_1 u0_2 u0_3 := by kernel_rfl
  refine e.trans ?_
  have e1 : (fun w0 w1 w2 w3 w4 w5 => cutAt (c7 N) a7 [1, 1, 1, 1, 1] [] (codeOf Try.f7) (k7 N) (h7_1 w0 w1 w2 w3 w4 w5)) = m_ticketlinelaw05_KeysHolds_l1 N := by
    funext w0 w1 w2 w3 w4 w5; exact t7_1 N w0 w1 w2 w3 w4 w5
  rw [e1]
  rfl
theorem ew7 : ∀ (N : Nat) (x : g7.ps.den), evalFn (c7 N) an7 Try.f7 (codeOf Try.f7) g7 x (fun p => p.1.1) = m_ticketlinelaw05_KeysHolds_a (m_ticketlinelaw05_KeysHolds_l0 N) x.1 x.2.1 x.2.2.1 := by
  intro N
  intro x
  obtain ⟨x0, x1, x2, xu⟩ := x
  have e : evalFn (c7 N) an7 Try.f7 (codeOf Try.f7) g7 (x0, x1, x2, xu) (fun p => p.1.1) = m_ticketlinelaw05_KeysHolds_a (fun w0 w1 w2 w3 => cutAt (c7 N) a7 [1, 1, 1, 1] [] (codeOf Try.f7) (k7 N) (h7_0 w0 w1 w2 w3)) x0 x1 x2 := by kernel_rfl
  refine e.trans ?_
  have e0 : (fun w0 w1 w2 w3 => cutAt (c7 N) a7 [1, 1, 1, 1] [] (codeOf Try.f7) (k7 N) (h7_0 w0 w1 w2 w3)) = m_ticketlinelaw05_KeysHolds_l0 N := by
    funext w0 w1 w2 w3; exact t7_0 N w0 w1 w2 w3
  rw [e0]
theorem ev7 : ∀ x : g7.ps.den, evalFn (c7 FUEL) an7 Try.f7 (codeOf Try.f7) g7 x (fun p => p.1.1) = g7.m x := fun x => ew7 FUEL x
theorem meets7 : Meets Try.prog 7 g7 :=
  meets_of (C := c7 FUEL) (ann := an7) (mkC_ok (gs := [(8, g8), (9, g9), (10, g10), (12, g12), (14, g14), (16, g16), (17, g17), (21, g21), (28, g28), (29, g29), (30, g30)]) (is := []) (mt := mtL) tysOK elemOK ⟨meets8, meets9, meets10, meets12, meets14, meets16, meets17, meets21, meets28, meets29, meets30, trivial⟩ trivial mtOK FUEL) mixed Try.func7 (by kernel_rfl) (by kernel_rfl) (by kernel_rfl) (of_decide_eq_true (by kernel_rfl)) (fun p => p.1.1) (fun _ _ => ⟨rfl, rfl⟩) ev7
end Go.Proofs.Ytmageoiakgcgmaa
