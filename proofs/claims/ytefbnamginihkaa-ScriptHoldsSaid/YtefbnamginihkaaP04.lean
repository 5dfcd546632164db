/- A part of the proof of a statement of this seat: the functions keep their promises. No condition. -/
import Derived.Test.YtefbnamginihkaaY04
import Derived.Test.YtefbnamginihkaaEv30
import Derived.Test.YtefbnamginihkaaM04
import Derived.Test.YtefbnamginihkaaEv32
import Derived.Test.YtefbnamginihkaaChecked
set_option linter.unusedVariables false
set_option maxRecDepth 100000
set_option maxHeartbeats 0
namespace Go.Proofs.Ytefbnamginihkaa
open Go Go.Ev Go.Ev.M Go.Proofs
def tyL : List (Nat × TI) := [
  (3, ⟨(.int .i64), 1, 8, (.int .i64 (0 : Int)), some (.int .i64), false⟩),
  (4, ⟨.bool, 1, 1, (.bool false), some .bool, false⟩),
  (5, ⟨(.int .u8), 1, 1, (.int .u8 (0 : Int)), some (.int .u8), false⟩),
  (9, ⟨.str, 1, 16, (.str (⟨#[]⟩ : ByteArray)), some .str, false⟩),
  (21, ⟨(.int .i32), 1, 4, (.int .i32 (0 : Int)), some (.int .i32), false⟩),
  (22, ⟨(.sl 5), 1, 24, .nils, some (.sl (.int .u8)), false⟩),
  (25, ⟨(.int .i64), 1, 8, (.int .i64 (0 : Int)), some (.int .i64), false⟩),
  (27, ⟨(.int .i64), 1, 8, (.int .i64 (0 : Int)), some (.int .i64), false⟩),
  (28, ⟨(.int .i64), 1, 8, (.int .i64 (0 : Int)), some (.int .i64), false⟩),
  (30, ⟨(.st [(27, 0), (3, 1), (3, 2), (28, 3), (9, 4), (9, 5), (9, 6), (3, 7)]), 8, 88, (.cons (.int .i64 (0 : Int)) (.cons (.int .i64 (0 : Int)) (.cons (.int .i64 (0 : Int)) (.cons (.int .i64 (0 : Int)) (.cons (.str (⟨#[]⟩ : ByteArray)) (.cons (.str (⟨#[]⟩ : ByteArray)) (.cons (.str (⟨#[]⟩ : ByteArray)) (.cons (.int .i64 (0 : Int)) .nl)))))))), some (.pair (.int .i64) (.pair (.int .i64) (.pair (.int .i64) (.pair (.int .i64) (.pair .str (.pair .str (.pair .str (.pair (.int .i64) .nl)))))))), true⟩),
  (31, ⟨(.sl 30), 1, 24, .nils, some (.sl (.pair (.int .i64) (.pair (.int .i64) (.pair (.int .i64) (.pair (.int .i64) (.pair .str (.pair .str (.pair .str (.pair (.int .i64) .nl))))))))), false⟩),
  (63, ⟨(.st [(22, 0), (3, 1)]), 2, 32, (.cons .nils (.cons (.int .i64 (0 : Int)) .nl)), some (.pair (.sl (.int .u8)) (.pair (.int .i64) .nl)), false⟩)]
theorem tysOK : tisB Try.prog tyL = true := by kernel_rfl
theorem elemOK : elemB (mkD tyL) tyL = true := by kernel_rfl
theorem mixed : Try.prog.follows .mixedOrders = true := by kernel_rfl
def mtL : List (Nat × String × Nat) := []
theorem mtOK : MOk Try.prog mtL := trivial
def g24 : Sig := gRep
theorem meets24 : Meets Try.prog 24 g24 := meets_rep (fn := Try.f24) Try.func24 (by kernel_rfl) (by kernel_rfl) (fun s c w h1 h2 => Try.strings_Repeat s c w h1 h2)
def c32 (N : Nat) : Cx := mkC tyL [] [] mtL N
noncomputable def i32 : List AV → Nat → Pg AV := inlPg (c32 0) Try.f32 (codeOf Try.f32)
theorem inl32 : Inlines Try.prog 32 i32 := inlines (C := c32 0) (mkC_ok (gs := []) (is := []) (mt := mtL) tysOK elemOK trivial trivial mtOK 0) mixed Try.func32 (by kernel_rfl) (by kernel_rfl)
def c17 (N : Nat) : Cx := mkC tyL [(24, g24)] [] mtL N
def g17 : Sig := ⟨(.cons (.pure (.int .u8)) .nl), (.cons (.pure .str) .nl), ByteArray, fun x => m_script_Key x.1, fun _ y => (y, ()), fun _ y => ((), ())⟩
def an17 : Nat → Ann := mkA []
theorem ev17 : ∀ x : g17.ps.den, evalFn (c17 FUEL) an17 Try.f17 (codeOf Try.f17) g17 x (fun p => p.1.1) = g17.m x := by
  intro x
  obtain ⟨x0, xu⟩ := x
  show _ = _
  kernel_rfl
theorem meets17 : Meets Try.prog 17 g17 :=
  meets_of (C := c17 FUEL) (ann := an17) (mkC_ok (gs := [(24, g24)]) (is := []) (mt := mtL) tysOK elemOK ⟨meets24, trivial⟩ trivial mtOK FUEL) mixed Try.func17 (by kernel_rfl) (by kernel_rfl) (by kernel_rfl) (of_decide_eq_true (by kernel_rfl)) (fun p => p.1.1) (fun _ _ => ⟨rfl, rfl⟩) ev17
def c19 (N : Nat) : Cx := mkC tyL [(24, g24)] [] mtL N
def g19 : Sig := ⟨(.cons (.pure (.int .u8)) .nl), (.cons (.pure .str) .nl), ByteArray, fun x => m_script_Value x.1, fun _ y => (y, ()), fun _ y => ((), ())⟩
def an19 : Nat → Ann := mkA []
theorem ev19 : ∀ x : g19.ps.den, evalFn (c19 FUEL) an19 Try.f19 (codeOf Try.f19) g19 x (fun p => p.1.1) = g19.m x := by
  intro x
  obtain ⟨x0, xu⟩ := x
  show _ = _
  kernel_rfl
theorem meets19 : Meets Try.prog 19 g19 :=
  meets_of (C := c19 FUEL) (ann := an19) (mkC_ok (gs := [(24, g24)]) (is := []) (mt := mtL) tysOK elemOK ⟨meets24, trivial⟩ trivial mtOK FUEL) mixed Try.func19 (by kernel_rfl) (by kernel_rfl) (by kernel_rfl) (of_decide_eq_true (by kernel_rfl)) (fun p => p.1.1) (fun _ _ => ⟨rfl, rfl⟩) ev19
noncomputable def c33 (N : Nat) : Cx := mkC tyL [(17, g17), (19, g19)] [(32, i32)] mtL N
noncomputable def i33 : List AV → Nat → Pg AV := inlPg (c33 0) Try.f33 (codeOf Try.f33)
theorem inl33 : Inlines Try.prog 33 i33 := inlines (C := c33 0) (mkC_ok (gs := [(17, g17), (19, g19)]) (is := [(32, i32)]) (mt := mtL) tysOK elemOK ⟨meets17, meets19, trivial⟩ ⟨inl32, trivial⟩ mtOK 0) mixed Try.func33 (by kernel_rfl) (by kernel_rfl)
noncomputable def c22 (N : Nat) : Cx := mkC tyL [] [(32, i32), (33, i33)] mtL N
def g22 : Sig := ⟨(.cons (.pure (.sl (.int .u8))) (.cons (.pure (.int .i64)) .nl)), (.cons (.pure (.pair (.int .i64) (.pair (.int .i64) (.pair (.int .i64) (.pair (.int .i64) (.pair .str (.pair .str (.pair .str (.pair (.int .i64) .nl))))))))) (.cons (.pure (.int .i64)) (.cons (.pure (.int .i64)) .nl))), ((Int × (Int × (Int × (Int × (ByteArray × (ByteArray × (ByteArray × (Int × Unit)))))))) × Int × Int), fun x => m_script_Next x.1 x.2.1, fun _ y => (y.1, (y.2.1, (y.2.2, ()))), fun _ y => ((), ((), ()))⟩
def an22 : Nat → Ann := mkA [(1000007, ⟨[0, 1, 4, 7, 8], [], [4, 27], true⟩), (1000008, ⟨[0, 4, 7, 8, 9, 10], [], [4, 27], true⟩), (1000009, ⟨[0, 4, 7, 8, 9, 10, 11], [], [4, 27, 11], true⟩), (1000011, ⟨[0, 4, 7, 9, 10, 11, 39], [], [4, 27, 11], true⟩), (1000020, ⟨[0, 4, 7, 11], [], [4, 27, 11], true⟩), (1000019, ⟨[0, 4, 7, 11], [], [4, 27, 11], true⟩)]
noncomputable def k22 (N : Nat) : Ex → St → Option ((Int × (Int × (Int × (Int × (ByteArray × (ByteArray × (ByteArray × (Int × Unit)))))))) × Int × Int) := finK (c22 N) Try.f22 g22 (.cons .top (.cons .top .nl)) (fun p => (p.1.1, p.1.2.1, p.1.2.2.1))
def a22 : Nat → Ann := annP [] an22
def h22_4 (u4_0 : (List Int)) (u4_1 : Int) (u4_2 : Int) (u4_3 : Int) (u4_4 : Int) (u4_5 : ByteArray) (u4_6 : ByteArray) (u4_7 : ByteArray) (u4_8 : Int) (u4_9 : (List Int)) (u4_10 : Int) (u4_11 : Int) (u4_12 : Int) (u4_13 : Int) (u4_14 : Int) (u4_15 : ByteArray) (u4_16 : ByteArray) (u4_17 : ByteArray) (u4_18 : Int) : St := ⟨76, [(0, (.lst (.int .u8) u4_0)), (4, (.ref 4 [])), (7, (.ref 27 [])), (11, (.ref 11 []))], [(4, (.cons (.int .i64 u4_1) (.cons (.int .i64 u4_2) (.cons (.int .i64 u4_3) (.cons (.int .i64 u4_4) (.cons (.str u4_5) (.cons (.str u4_6) (.cons (.str u4_7) (.cons (.int .i64 u4_8) .nl))))))))), (27, (.cons (.lst (.int .u8) u4_9) (.cons (.int .i64 u4_10) .nl))), (11, (.cons (.int .i64 u4_11) (.cons (.int .i64 u4_12) (.cons (.int .i64 u4_13) (.cons (.int .i64 u4_14) (.cons (.str u4_15) (.cons (.str u4_16) (.cons (.str u4_17) (.cons (.int .i64 u4_18) .nl)))))))))]⟩
def h22_5 (u5_0 : (List Int)) (u5_1 : Int) (u5_2 : Int) (u5_3 : Int) (u5_4 : Int) (u5_5 : ByteArray) (u5_6 : ByteArray) (u5_7 : ByteArray) (u5_8 : Int) (u5_9 : (List Int)) (u5_10 : Int) (u5_11 : Int) (u5_12 : Int) (u5_13 : Int) (u5_14 : Int) (u5_15 : ByteArray) (u5_16 : ByteArray) (u5_17 : ByteArray) (u5_18 : Int) : St := ⟨76, [(0, (.lst (.int .u8) u5_0)), (4, (.ref 4 [])), (7, (.ref 27 [])), (11, (.ref 11 []))], [(4, (.cons (.int .i64 u5_1) (.cons (.int .i64 u5_2) (.cons (.int .i64 u5_3) (.cons (.int .i64 u5_4) (.cons (.str u5_5) (.cons (.str u5_6) (.cons (.str u5_7) (.cons (.int .i64 u5_8) .nl))))))))), (27, (.cons (.lst (.int .u8) u5_9) (.cons (.int .i64 u5_10) .nl))), (11, (.cons (.int .i64 u5_11) (.cons (.int .i64 u5_12) (.cons (.int .i64 u5_13) (.cons (.int .i64 u5_14) (.cons (.str u5_15) (.cons (.str u5_16) (.cons (.str u5_17) (.cons (.int .i64 u5_18) .nl)))))))))]⟩
def h22_3 (u3_0 : (List Int)) (u3_1 : Int) (u3_2 : Int) (u3_3 : Int) (u3_4 : Int) (u3_5 : Int) (u3_6 : Int) (u3_7 : Int) (u3_8 : ByteArray) (u3_9 : ByteArray) (u3_10 : ByteArray) (u3_11 : Int) (u3_12 : (List Int)) (u3_13 : Int) (u3_14 : Int) (u3_15 : Int) (u3_16 : Int) (u3_17 : Int) (u3_18 : ByteArray) (u3_19 : ByteArray) (u3_20 : ByteArray) (u3_21 : Int) : St := ⟨76, [(0, (.lst (.int .u8) u3_0)), (4, (.ref 4 [])), (7, (.ref 27 [])), (9, (.int .i64 u3_1)), (10, (.int .i64 u3_2)), (11, (.ref 11 [])), (39, (.int .u8 u3_3))], [(4, (.cons (.int .i64 u3_4) (.cons (.int .i64 u3_5) (.cons (.int .i64 u3_6) (.cons (.int .i64 u3_7) (.cons (.str u3_8) (.cons (.str u3_9) (.cons (.str u3_10) (.cons (.int .i64 u3_11) .nl))))))))), (27, (.cons (.lst (.int .u8) u3_12) (.cons (.int .i64 u3_13) .nl))), (11, (.cons (.int .i64 u3_14) (.cons (.int .i64 u3_15) (.cons (.int .i64 u3_16) (.cons (.int .i64 u3_17) (.cons (.str u3_18) (.cons (.str u3_19) (.cons (.str u3_20) (.cons (.int .i64 u3_21) .nl)))))))))]⟩
def h22_2 (u2_0 : (List Int)) (u2_1 : Int) (u2_2 : Int) (u2_3 : Int) (u2_4 : Int) (u2_5 : Int) (u2_6 : Int) (u2_7 : Int) (u2_8 : ByteArray) (u2_9 : ByteArray) (u2_10 : ByteArray) (u2_11 : Int) (u2_12 : (List Int)) (u2_13 : Int) (u2_14 : Int) (u2_15 : Int) (u2_16 : Int) (u2_17 : Int) (u2_18 : ByteArray) (u2_19 : ByteArray) (u2_20 : ByteArray) (u2_21 : Int) : St := ⟨76, [(0, (.lst (.int .u8) u2_0)), (4, (.ref 4 [])), (7, (.ref 27 [])), (8, (.int .u8 u2_1)), (9, (.int .i64 u2_2)), (10, (.int .i64 u2_3)), (11, (.ref 11 []))], [(4, (.cons (.int .i64 u2_4) (.cons (.int .i64 u2_5) (.cons (.int .i64 u2_6) (.cons (.int .i64 u2_7) (.cons (.str u2_8) (.cons (.str u2_9) (.cons (.str u2_10) (.cons (.int .i64 u2_11) .nl))))))))), (27, (.cons (.lst (.int .u8) u2_12) (.cons (.int .i64 u2_13) .nl))), (11, (.cons (.int .i64 u2_14) (.cons (.int .i64 u2_15) (.cons (.int .i64 u2_16) (.cons (.int .i64 u2_17) (.cons (.str u2_18) (.cons (.str u2_19) (.cons (.str u2_20) (.cons (.int .i64 u2_21) .nl)))))))))]⟩
def h22_1 (u1_0 : (List Int)) (u1_1 : Int) (u1_2 : Int) (u1_3 : Int) (u1_4 : Int) (u1_5 : Int) (u1_6 : Int) (u1_7 : Int) (u1_8 : ByteArray) (u1_9 : ByteArray) (u1_10 : ByteArray) (u1_11 : Int) (u1_12 : (List Int)) (u1_13 : Int) : St := ⟨76, [(0, (.lst (.int .u8) u1_0)), (4, (.ref 4 [])), (7, (.ref 27 [])), (8, (.int .u8 u1_1)), (9, (.int .i64 u1_2)), (10, (.int .i64 u1_3))], [(4, (.cons (.int .i64 u1_4) (.cons (.int .i64 u1_5) (.cons (.int .i64 u1_6) (.cons (.int .i64 u1_7) (.cons (.str u1_8) (.cons (.str u1_9) (.cons (.str u1_10) (.cons (.int .i64 u1_11) .nl))))))))), (27, (.cons (.lst (.int .u8) u1_12) (.cons (.int .i64 u1_13) .nl)))]⟩
def h22_0 (u0_0 : (List Int)) (u0_1 : Int) (u0_2 : Int) (u0_3 : Int) (u0_4 : Int) (u0_5 : Int) (u0_6 : Int) (u0_7 : ByteArray) (u0_8 : ByteArray) (u0_9 : ByteArray) (u0_10 : Int) (u0_11 : (List Int)) (u0_12 : Int) : St := ⟨76, [(0, (.lst (.int .u8) u0_0)), (1, (.int .i64 u0_1)), (4, (.ref 4 [])), (7, (.ref 27 [])), (8, (.int .u8 u0_2))], [(4, (.cons (.int .i64 u0_3) (.cons (.int .i64 u0_4) (.cons (.int .i64 u0_5) (.cons (.int .i64 u0_6) (.cons (.str u0_7) (.cons (.str u0_8) (.cons (.str u0_9) (.cons (.int .i64 u0_10) .nl))))))))), (27, (.cons (.lst (.int .u8) u0_11) (.cons (.int .i64 u0_12) .nl)))]⟩
def pl22 : List (Nat × List Nat) := [(20, [1, 1, 1, 1, 1, 1, 1]), (19, [1, 1, 1, 1, 1, 1, 0, 1, 0, 1, 1, 1, 1, 1, 0, 1]), (11, [1, 1, 1, 1, 1, 1, 0, 1]), (9, [1, 1, 1, 1, 1, 1]), (8, [1, 1, 1, 1, 1]), (7, [1, 1, 1, 1])]
def sx22 (F4 : St → (Ex → St → Option ((Int × (Int × (Int × (Int × (ByteArray × (ByteArray × (ByteArray × (Int × Unit)))))))) × Int × Int)) → Option ((Int × (Int × (Int × (Int × (ByteArray × (ByteArray × (ByteArray × (Int × Unit)))))))) × Int × Int)) (F5 : St → (Ex → St → Option ((Int × (Int × (Int × (Int × (ByteArray × (ByteArray × (ByteArray × (Int × Unit)))))))) × Int × Int)) → Option ((Int × (Int × (Int × (Int × (ByteArray × (ByteArray × (ByteArray × (Int × Unit)))))))) × Int × Int)) (F3 : St → (Ex → St → Option ((Int × (Int × (Int × (Int × (ByteArray × (ByteArray × (ByteArray × (Int × Unit)))))))) × Int × Int)) → Option ((Int × (Int × (Int × (Int × (ByteArray × (ByteArray × (ByteArray × (Int × Unit)))))))) × Int × Int)) (F2 : St → (Ex → St → Option ((Int × (Int × (Int × (Int × (ByteArray × (ByteArray × (ByteArray × (Int × Unit)))))))) × Int × Int)) → Option ((Int × (Int × (Int × (Int × (ByteArray × (ByteArray × (ByteArray × (Int × Unit)))))))) × Int × Int)) (F1 : St → (Ex → St → Option ((Int × (Int × (Int × (Int × (ByteArray × (ByteArray × (ByteArray × (Int × Unit)))))))) × Int × Int)) → Option ((Int × (Int × (Int × (Int × (ByteArray × (ByteArray × (ByteArray × (Int × Unit)))))))) × Int × Int)) (F0 : St → (Ex → St → Option ((Int × (Int × (Int × (Int × (ByteArray × (ByteArray × (ByteArray × (Int × Unit)))))))) × Int × Int)) → Option ((Int × (Int × (Int × (Int × (ByteArray × (ByteArray × (ByteArray × (Int × Unit)))))))) × Int × Int)) : Stops ((Int × (Int × (Int × (Int × (ByteArray × (ByteArray × (ByteArray × (Int × Unit)))))))) × Int × Int) := stops [(20, F4), (19, F5), (11, F3), (9, F2), (8, F1), (7, F0)]
theorem rx22 (N : Nat) : (sx22 (evalK (c22 N) a22 (cAt [1, 1, 1, 1, 1, 1, 1] (codeOf Try.f22))) (evalK (c22 N) a22 (cAt [1, 1, 1, 1, 1, 1, 0, 1, 0, 1, 1, 1, 1, 1, 0, 1] (codeOf Try.f22))) (evalK (c22 N) a22 (cAt [1, 1, 1, 1, 1, 1, 0, 1] (codeOf Try.f22))) (evalK (c22 N) a22 (cAt [1, 1, 1, 1, 1, 1] (codeOf Try.f22))) (evalK (c22 N) a22 (cAt [1, 1, 1, 1, 1] (codeOf Try.f22))) (evalK (c22 N) a22 (cAt [1, 1, 1, 1] (codeOf Try.f22)))).right (c22 N) a22 (codeOf Try.f22) := stops_right (L := pl22) (q := []) rfl (by kernel_rfl)
theorem x22_4 : ∀ (N : Nat) (u4_0 : (List Int)) (u4_1 : Int) (u4_2 : Int) (u4_3 : Int) (u4_4 : Int) (u4_5 : ByteArray) (u4_6 : ByteArray) (u4_7 : ByteArray) (u4_8 : Int) (u4_9 : (List Int)) (u4_10 : Int) (u4_11 : Int) (u4_12 : Int) (u4_13 : Int) (u4_14 : Int) (u4_15 : ByteArray) (u4_16 : ByteArray) (u4_17 : ByteArray) (u4_18 : Int) (F4 : St → (Ex → St → Option ((Int × (Int × (Int × (Int × (ByteArray × (ByteArray × (ByteArray × (Int × Unit)))))))) × Int × Int)) → Option ((Int × (Int × (Int × (Int × (ByteArray × (ByteArray × (ByteArray × (Int × Unit)))))))) × Int × Int)) (F5 : St → (Ex → St → Option ((Int × (Int × (Int × (Int × (ByteArray × (ByteArray × (ByteArray × (Int × Unit)))))))) × Int × Int)) → Option ((Int × (Int × (Int × (Int × (ByteArray × (ByteArray × (ByteArray × (Int × Unit)))))))) × Int × Int)) (F3 : St → (Ex → St → Option ((Int × (Int × (Int × (Int × (ByteArray × (ByteArray × (ByteArray × (Int × Unit)))))))) × Int × Int)) → Option ((Int × (Int × (Int × (Int × (ByteArray × (ByteArray × (ByteArray × (Int × Unit)))))))) × Int × Int)) (F2 : St → (Ex → St → Option ((Int × (Int × (Int × (Int × (ByteArray × (ByteArray × (ByteArray × (Int × Unit)))))))) × Int × Int)) → Option ((Int × (Int × (Int × (Int × (ByteArray × (ByteArray × (ByteArray × (Int × Unit)))))))) × Int × Int)) (F1 : St → (Ex → St → Option ((Int × (Int × (Int × (Int × (ByteArray × (ByteArray × (ByteArray × (Int × Unit)))))))) × Int × Int)) → Option ((Int × (Int × (Int × (Int × (ByteArray × (ByteArray × (ByteArray × (Int × Unit)))))))) × Int × Int)) (F0 : St → (Ex → St → Option ((Int × (Int × (Int × (Int × (ByteArray × (ByteArray × (ByteArray × (Int × Unit)))))))) × Int × Int)) → Option ((Int × (Int × (Int × (Int × (ByteArray × (ByteArray × (ByteArray × (Int × Unit)))))))) × Int × Int)), evalX (c22 N) a22 (sx22 F4 F5 F3 F2 F1 F0) (cAt [1, 1, 1, 1, 1, 1, 1] (codeOf Try.f22)) (h22_4 u4_0 u4_1 u4_2 u4_3 u4_4 u4_5 u4_6 u4_7 u4_8 u4_9 u4_10 u4_11 u4_12 u4_13 u4_14 u4_15 u4_16 u4_17 u4_18) (kAtX (c22 N) a22 (sx22 F4 F5 F3 F2 F1 F0) [1, 1, 1, 1, 1, 1, 1] [] (codeOf Try.f22) (k22 N)) = m_script_Next_l4_b u4_0 u4_1 u4_2 u4_3 u4_4 u4_5 u4_6 u4_7 u4_8 u4_9 u4_10 u4_11 u4_12 u4_13 u4_14 u4_15 u4_16 u4_17 u4_18 := by
  intro N u4_0 u4_1 u4_2 u4_3 u4_4 u4_5 u4_6 u4_7 u4_8 u4_9 u4_10 u4_11 u4_12 u4_13 u4_14 u4_15 u4_16 u4_17 u4_18 F4 F5 F3 F2 F1 F0
  kernel_rfl
theorem t22_4 : ∀ (N : Nat) (u4_0 : (List Int)) (u4_1 : Int) (u4_2 : Int) (u4_3 : Int) (u4_4 : Int) (u4_5 : ByteArray) (u4_6 : ByteArray) (u4_7 : ByteArray) (u4_8 : Int) (u4_9 : (List Int)) (u4_10 : Int) (u4_11 : Int) (u4_12 : Int) (u4_13 : Int) (u4_14 : Int) (u4_15 : ByteArray) (u4_16 : ByteArray) (u4_17 : ByteArray) (u4_18 : Int), cutAt (c22 N) a22 [1, 1, 1, 1, 1, 1, 1] [] (codeOf Try.f22) (k22 N) (h22_4 u4_0 u4_1 u4_2 u4_3 u4_4 u4_5 u4_6 u4_7 u4_8 u4_9 u4_10 u4_11 u4_12 u4_13 u4_14 u4_15 u4_16 u4_17 u4_18) = m_script_Next_l4 N u4_0 u4_1 u4_2 u4_3 u4_4 u4_5 u4_6 u4_7 u4_8 u4_9 u4_10 u4_11 u4_12 u4_13 u4_14 u4_15 u4_16 u4_17 u4_18 := by
  intro N u4_0 u4_1 u4_2 u4_3 u4_4 u4_5 u4_6 u4_7 u4_8 u4_9 u4_10 u4_11 u4_12 u4_13 u4_14 u4_15 u4_16 u4_17 u4_18
  have e := x22_4 N u4_0 u4_1 u4_2 u4_3 u4_4 u4_5 u4_6 u4_7 u4_8 u4_9 u4_10 u4_11 u4_12 u4_13 u4_14 u4_15 u4_16 u4_17 u4_18 (evalK (c22 N) a22 (cAt [1, 1, 1, 1, 1, 1, 1] (codeOf Try.f22))) (evalK (c22 N) a22 (cAt [1, 1, 1, 1, 1, 1, 0, 1, 0, 1, 1, 1, 1, 1, 0, 1] (codeOf Try.f22))) (evalK (c22 N) a22 (cAt [1, 1, 1, 1, 1, 1, 0, 1] (codeOf Try.f22))) (evalK (c22 N) a22 (cAt [1, 1, 1, 1, 1, 1] (codeOf Try.f22))) (evalK (c22 N) a22 (cAt [1, 1, 1, 1, 1] (codeOf Try.f22))) (evalK (c22 N) a22 (cAt [1, 1, 1, 1] (codeOf Try.f22)))
  rw [evalX_eq (right_at [1, 1, 1, 1, 1, 1, 1] (rx22 N)), kAtX_eq (rx22 N) [1, 1, 1, 1, 1, 1, 1]] at e
  refine Eq.trans (show cutAt (c22 N) a22 [1, 1, 1, 1, 1, 1, 1] [] (codeOf Try.f22) (k22 N) (h22_4 u4_0 u4_1 u4_2 u4_3 u4_4 u4_5 u4_6 u4_7 u4_8 u4_9 u4_10 u4_11 u4_12 u4_13 u4_14 u4_15 u4_16 u4_17 u4_18) = m_script_Next_l4_b u4_0 u4_1 u4_2 u4_3 u4_4 u4_5 u4_6 u4_7 u4_8 u4_9 u4_10 u4_11 u4_12 u4_13 u4_14 u4_15 u4_16 u4_17 u4_18 from e) ?_
  rfl
theorem x22_5 : ∀ (N : Nat) (u5_0 : (List Int)) (u5_1 : Int) (u5_2 : Int) (u5_3 : Int) (u5_4 : Int) (u5_5 : ByteArray) (u5_6 : ByteArray) (u5_7 : ByteArray) (u5_8 : Int) (u5_9 : (List Int)) (u5_10 : Int) (u5_11 : Int) (u5_12 : Int) (u5_13 : Int) (u5_14 : Int) (u5_15 : ByteArray) (u5_16 : ByteArray) (u5_17 : ByteArray) (u5_18 : Int) (F4 : St → (Ex → St → Option ((Int × (Int × (Int × (Int × (ByteArray × (ByteArray × (ByteArray × (Int × Unit)))))))) × Int × Int)) → Option ((Int × (Int × (Int × (Int × (ByteArray × (ByteArray × (ByteArray × (Int × Unit)))))))) × Int × Int)) (F5 : St → (Ex → St → Option ((Int × (Int × (Int × (Int × (ByteArray × (ByteArray × (ByteArray × (Int × Unit)))))))) × Int × Int)) → Option ((Int × (Int × (Int × (Int × (ByteArray × (ByteArray × (ByteArray × (Int × Unit)))))))) × Int × Int)) (F3 : St → (Ex → St → Option ((Int × (Int × (Int × (Int × (ByteArray × (ByteArray × (ByteArray × (Int × Unit)))))))) × Int × Int)) → Option ((Int × (Int × (Int × (Int × (ByteArray × (ByteArray × (ByteArray × (Int × Unit)))))))) × Int × Int)) (F2 : St → (Ex → St → Option ((Int × (Int × (Int × (Int × (ByteArray × (ByteArray × (ByteArray × (Int × Unit)))))))) × Int × Int)) → Option ((Int × (Int × (Int × (Int × (ByteArray × (ByteArray × (ByteArray × (Int × Unit)))))))) × Int × Int)) (F1 : St → (Ex → St → Option ((Int × (Int × (Int × (Int × (ByteArray × (ByteArray × (ByteArray × (Int × Unit)))))))) × Int × Int)) → Option ((Int × (Int × (Int × (Int × (ByteArray × (ByteArray × (ByteArray × (Int × Unit)))))))) × Int × Int)) (F0 : St → (Ex → St → Option ((Int × (Int × (Int × (Int × (ByteArray × (ByteArray × (ByteArray × (Int × Unit)))))))) × Int × Int)) → Option ((Int × (Int × (Int × (Int × (ByteArray × (ByteArray × (ByteArray × (Int × Unit)))))))) × Int × Int)), evalX (c22 N) a22 (sx22 F4 F5 F3 F2 F1 F0) (cAt [1, 1, 1, 1, 1, 1, 0, 1, 0, 1, 1, 1, 1, 1, 0, 1] (codeOf Try.f22)) (h22_5 u5_0 u5_1 u5_2 u5_3 u5_4 u5_5 u5_6 u5_7 u5_8 u5_9 u5_10 u5_11 u5_12 u5_13 u5_14 u5_15 u5_16 u5_17 u5_18) (kAtX (c22 N) a22 (sx22 F4 F5 F3 F2 F1 F0) [1, 1, 1, 1, 1, 1, 0, 1, 0, 1, 1, 1, 1, 1, 0, 1] [] (codeOf Try.f22) (k22 N)) = m_script_Next_l5_b (fun w0 w1 w2 w3 w4 w5 w6 w7 w8 w9 w10 w11 w12 w13 w14 w15 w16 w17 w18 => F4 (h22_4 w0 w1 w2 w3 w4 w5 w6 w7 w8 w9 w10 w11 w12 w13 w14 w15 w16 w17 w18) (kAtX (c22 N) a22 (sx22 F4 F5 F3 F2 F1 F0) [1, 1, 1, 1, 1, 1, 1] [] (codeOf Try.f22) (k22 N))) u5_0 u5_1 u5_2 u5_3 u5_4 u5_5 u5_6 u5_7 u5_8 u5_9 u5_10 u5_11 u5_12 u5_13 u5_14 u5_15 u5_16 u5_17 u5_18 := by
  intro N u5_0 u5_1 u5_2 u5_3 u5_4 u5_5 u5_6 u5_7 u5_8 u5_9 u5_10 u5_11 u5_12 u5_13 u5_14 u5_15 u5_16 u5_17 u5_18 F4 F5 F3 F2 F1 F0
  kernel_rfl
theorem t22_5 : ∀ (N : Nat) (u5_0 : (List Int)) (u5_1 : Int) (u5_2 : Int) (u5_3 : Int) (u5_4 : Int) (u5_5 : ByteArray) (u5_6 : ByteArray) (u5_7 : ByteArray) (u5_8 : Int) (u5_9 : (List Int)) (u5_10 : Int) (u5_11 : Int) (u5_12 : Int) (u5_13 : Int) (u5_14 : Int) (u5_15 : ByteArray) (u5_16 : ByteArray) (u5_17 : ByteArray) (u5_18 : Int), cutAt (c22 N) a22 [1, 1, 1, 1, 1, 1, 0, 1, 0, 1, 1, 1, 1, 1, 0, 1] [] (codeOf Try.f22) (k22 N) (h22_5 u5_0 u5_1 u5_2 u5_3 u5_4 u5_5 u5_6 u5_7 u5_8 u5_9 u5_10 u5_11 u5_12 u5_13 u5_14 u5_15 u5_16 u5_17 u5_18) = m_script_Next_l5 N u5_0 u5_1 u5_2 u5_3 u5_4 u5_5 u5_6 u5_7 u5_8 u5_9 u5_10 u5_11 u5_12 u5_13 u5_14 u5_15 u5_16 u5_17 u5_18 := by
  intro N u5_0 u5_1 u5_2 u5_3 u5_4 u5_5 u5_6 u5_7 u5_8 u5_9 u5_10 u5_11 u5_12 u5_13 u5_14 u5_15 u5_16 u5_17 u5_18
  have e := x22_5 N u5_0 u5_1 u5_2 u5_3 u5_4 u5_5 u5_6 u5_7 u5_8 u5_9 u5_10 u5_11 u5_12 u5_13 u5_14 u5_15 u5_16 u5_17 u5_18 (evalK (c22 N) a22 (cAt [1, 1, 1, 1, 1, 1, 1] (codeOf Try.f22))) (evalK (c22 N) a22 (cAt [1, 1, 1, 1, 1, 1, 0, 1, 0, 1, 1, 1, 1, 1, 0, 1] (codeOf Try.f22))) (evalK (c22 N) a22 (cAt [1, 1, 1, 1, 1, 1, 0, 1] (codeOf Try.f22))) (evalK (c22 N) a22 (cAt [1, 1, 1, 1, 1, 1] (codeOf Try.f22))) (evalK (c22 N) a22 (cAt [1, 1, 1, 1, 1] (codeOf Try.f22))) (evalK (c22 N) a22 (cAt [1, 1, 1, 1] (codeOf Try.f22)))
  rw [evalX_eq (right_at [1, 1, 1, 1, 1, 1, 0, 1, 0, 1, 1, 1, 1, 1, 0, 1] (rx22 N)), kAtX_eq (rx22 N) [1, 1, 1, 1, 1, 1, 0, 1, 0, 1, 1, 1, 1, 1, 0, 1], kAtX_eq (rx22 N) [1, 1, 1, 1, 1, 1, 1]] at e
  refine Eq.trans (show cutAt (c22 N) a22 [1, 1, 1, 1, 1, 1, 0, 1, 0, 1, 1, 1, 1, 1, 0, 1] [] (codeOf Try.f22) (k22 N) (h22_5 u5_0 u5_1 u5_2 u5_3 u5_4 u5_5 u5_6 u5_7 u5_8 u5_9 u5_10 u5_11 u5_12 u5_13 u5_14 u5_15 u5_16 u5_17 u5_18) = m_script_Next_l5_b (fun w0 w1 w2 w3 w4 w5 w6 w7 w8 w9 w10 w11 w12 w13 w14 w15 w16 w17 w18 => cutAt (c22 N) a22 [1, 1, 1, 1, 1, 1, 1] [] (codeOf Try.f22) (k22 N) (h22_4 w0 w1 w2 w3 w4 w5 w6 w7 w8 w9 w10 w11 w12 w13 w14 w15 w16 w17 w18)) u5_0 u5_1 u5_2 u5_3 u5_4 u5_5 u5_6 u5_7 u5_8 u5_9 u5_10 u5_11 u5_12 u5_13 u5_14 u5_15 u5_16 u5_17 u5_18 from e) ?_
  have e4 : (fun w0 w1 w2 w3 w4 w5 w6 w7 w8 w9 w10 w11 w12 w13 w14 w15 w16 w17 w18 => cutAt (c22 N) a22 [1, 1, 1, 1, 1, 1, 1] [] (codeOf Try.f22) (k22 N) (h22_4 w0 w1 w2 w3 w4 w5 w6 w7 w8 w9 w10 w11 w12 w13 w14 w15 w16 w17 w18)) = m_script_Next_l4 N := by
    funext w0 w1 w2 w3 w4 w5 w6 w7 w8 w9 w10 w11 w12 w13 w14 w15 w16 w17 w18; exact t22_4 N w0 w1 w2 w3 w4 w5 w6 w7 w8 w9 w10 w11 w12 w13 w14 w15 w16 w17 w18
  rw [e4]
  rfl
theorem x22_3 : ∀ (N : Nat) (u3_0 : (List Int)) (u3_1 : Int) (u3_2 : Int) (u3_3 : Int) (u3_4 : Int) (u3_5 : Int) (u3_6 : Int) (u3_7 : Int) (u3_8 : ByteArray) (u3_9 : ByteArray) (u3_10 : ByteArray) (u3_11 : Int) (u3_12 : (List Int)) (u3_13 : Int) (u3_14 : Int) (u3_15 : Int) (u3_16 : Int) (u3_17 : Int) (u3_18 : ByteArray) (u3_19 : ByteArray) (u3_20 : ByteArray) (u3_21 : Int) (F4 : St → (Ex → St → Option ((Int × (Int × (Int × (Int × (ByteArray × (ByteArray × (ByteArray × (Int × Unit)))))))) × Int × Int)) → Option ((Int × (Int × (Int × (Int × (ByteArray × (ByteArray × (ByteArray × (Int × Unit)))))))) × Int × Int)) (F5 : St → (Ex → St → Option ((Int × (Int × (Int × (Int × (ByteArray × (ByteArray × (ByteArray × (Int × Unit)))))))) × Int × Int)) → Option ((Int × (Int × (Int × (Int × (ByteArray × (ByteArray × (ByteArray × (Int × Unit)))))))) × Int × Int)) (F3 : St → (Ex → St → Option ((Int × (Int × (Int × (Int × (ByteArray × (ByteArray × (ByteArray × (Int × Unit)))))))) × Int × Int)) → Option ((Int × (Int × (Int × (Int × (ByteArray × (ByteArray × (ByteArray × (Int × Unit)))))))) × Int × Int)) (F2 : St → (Ex → St → Option ((Int × (Int × (Int × (Int × (ByteArray × (ByteArray × (ByteArray × (Int × Unit)))))))) × Int × Int)) → Option ((Int × (Int × (Int × (Int × (ByteArray × (ByteArray × (ByteArray × (Int × Unit)))))))) × Int × Int)) (F1 : St → (Ex → St → Option ((Int × (Int × (Int × (Int × (ByteArray × (ByteArray × (ByteArray × (Int × Unit)))))))) × Int × Int)) → Option ((Int × (Int × (Int × (Int × (ByteArray × (ByteArray × (ByteArray × (Int × Unit)))))))) × Int × Int)) (F0 : St → (Ex → St → Option ((Int × (Int × (Int × (Int × (ByteArray × (ByteArray × (ByteArray × (Int × Unit)))))))) × Int × Int)) → Option ((Int × (Int × (Int × (Int × (ByteArray × (ByteArray × (ByteArray × (Int × Unit)))))))) × Int × Int)), evalX (c22 N) a22 (sx22 F4 F5 F3 F2 F1 F0) (cAt [1, 1, 1, 1, 1, 1, 0, 1] (codeOf Try.f22)) (h22_3 u3_0 u3_1 u3_2 u3_3 u3_4 u3_5 u3_6 u3_7 u3_8 u3_9 u3_10 u3_11 u3_12 u3_13 u3_14 u3_15 u3_16 u3_17 u3_18 u3_19 u3_20 u3_21) (kAtX (c22 N) a22 (sx22 F4 F5 F3 F2 F1 F0) [1, 1, 1, 1, 1, 1, 0, 1] [] (codeOf Try.f22) (k22 N)) = m_script_Next_l3_b (fun w0 w1 w2 w3 w4 w5 w6 w7 w8 w9 w10 w11 w12 w13 w14 w15 w16 w17 w18 => F4 (h22_4 w0 w1 w2 w3 w4 w5 w6 w7 w8 w9 w10 w11 w12 w13 w14 w15 w16 w17 w18) (kAtX (c22 N) a22 (sx22 F4 F5 F3 F2 F1 F0) [1, 1, 1, 1, 1, 1, 1] [] (codeOf Try.f22) (k22 N))) (fun w0 w1 w2 w3 w4 w5 w6 w7 w8 w9 w10 w11 w12 w13 w14 w15 w16 w17 w18 => F5 (h22_5 w0 w1 w2 w3 w4 w5 w6 w7 w8 w9 w10 w11 w12 w13 w14 w15 w16 w17 w18) (kAtX (c22 N) a22 (sx22 F4 F5 F3 F2 F1 F0) [1, 1, 1, 1, 1, 1, 0, 1, 0, 1, 1, 1, 1, 1, 0, 1] [] (codeOf Try.f22) (k22 N))) u3_0 u3_1 u3_2 u3_3 u3_4 u3_5 u3_6 u3_7 u3_8 u3_9 u3_10 u3_11 u3_12 u3_13 u3_14 u3_15 u3_16 u3_17 u3_18 u3_19 u3_20 u3_21 := by
  intro N u3_0 u3_1 u3_2 u3_3 u3_4 u3_5 u3_6 u3_7 u3_8 u3_9 u3_10 u3_11 u3_12 u3_13 u3_14 u3_15 u3_16 u3_17 u3_18 u3_19 u3_20 u3_21 F4 F5 F3 F2 F1 F0
  kernel_rfl
theorem t22_3 : ∀ (N : Nat) (u3_0 : (List Int)) (u3_1 : Int) (u3_2 : Int) (u3_3 : Int) (u3_4 : Int) (u3_5 : Int) (u3_6 : Int) (u3_7 : Int) (u3_8 : ByteArray) (u3_9 : ByteArray) (u3_10 : ByteArray) (u3_11 : Int) (u3_12 : (List Int)) (u3_13 : Int) (u3_14 : Int) (u3_15 : Int) (u3_16 : Int) (u3_17 : Int) (u3_18 : ByteArray) (u3_19 : ByteArray) (u3_20 : ByteArray) (u3_21 : Int), cutAt (c22 N) a22 [1, 1, 1, 1, 1, 1, 0, 1] [] (codeOf Try.f22) (k22 N) (h22_3 u3_0 u3_1 u3_2 u3_3 u3_4 u3_5 u3_6 u3_7 u3_8 u3_9 u3_10 u3_11 u3_12 u3_13 u3_14 u3_15 u3_16 u3_17 u3_18 u3_19 u3_20 u3_21) = m_script_Next_l3 N u3_0 u3_1 u3_2 u3_3 u3_4 u3_5 u3_6 u3_7 u3_8 u3_9 u3_10 u3_11 u3_12 u3_13 u3_14 u3_15 u3_16 u3_17 u3_18 u3_19 u3_20 u3_21 := by
  intro N u3_0 u3_1 u3_2 u3_3 u3_4 u3_5 u3_6 u3_7 u3_8 u3_9 u3_10 u3_11 u3_12 u3_13 u3_14 u3_15 u3_16 u3_17 u3_18 u3_19 u3_20 u3_21
  have e := x22_3 N u3_0 u3_1 u3_2 u3_3 u3_4 u3_5 u3_6 u3_7 u3_8 u3_9 u3_10 u3_11 u3_12 u3_13 u3_14 u3_15 u3_16 u3_17 u3_18 u3_19 u3_20 u3_21 (evalK (c22 N) a22 (cAt [1, 1, 1, 1, 1, 1, 1] (codeOf Try.f22))) (evalK (c22 N) a22 (cAt [1, 1, 1, 1, 1, 1, 0, 1, 0, 1, 1, 1, 1, 1, 0, 1] (codeOf Try.f22))) (evalK (c22 N) a22 (cAt [1, 1, 1, 1, 1, 1, 0, 1] (codeOf Try.f22))) (evalK (c22 N) a22 (cAt [1, 1, 1, 1, 1, 1] (codeOf Try.f22))) (evalK (c22 N) a22 (cAt [1, 1, 1, 1, 1] (codeOf Try.f22))) (evalK (c22 N) a22 (cAt [1, 1, 1, 1] (codeOf Try.f22)))
  rw [evalX_eq (right_at [1, 1, 1, 1, 1, 1, 0, 1] (rx22 N)), kAtX_eq (rx22 N) [1, 1, 1, 1, 1, 1, 0, 1], kAtX_eq (rx22 N) [1, 1, 1, 1, 1, 1, 1], kAtX_eq (rx22 N) [1, 1, 1, 1, 1, 1, 0, 1, 0, 1, 1, 1, 1, 1, 0, 1]] at e
  refine Eq.trans (show cutAt (c22 N) a22 [1, 1, 1, 1, 1, 1, 0, 1] [] (codeOf Try.f22) (k22 N) (h22_3 u3_0 u3_1 u3_2 u3_3 u3_4 u3_5 u3_6 u3_7 u3_8 u3_9 u3_10 u3_11 u3_12 u3_13 u3_14 u3_15 u3_16 u3_17 u3_18 u3_19 u3_20 u3_21) = m_script_Next_l3_b (fun w0 w1 w2 w3 w4 w5 w6 w7 w8 w9 w10 w11 w12 w13 w14 w15 w16 w17 w18 => cutAt (c22 N) a22 [1, 1, 1, 1, 1, 1, 1] [] (codeOf Try.f22) (k22 N) (h22_4 w0 w1 w2 w3 w4 w5 w6 w7 w8 w9 w10 w11 w12 w13 w14 w15 w16 w17 w18)) (fun w0 w1 w2 w3 w4 w5 w6 w7 w8 w9 w10 w11 w12 w13 w14 w15 w16 w17 w18 => cutAt (c22 N) a22 [1, 1, 1, 1, 1, 1, 0, 1, 0, 1, 1, 1, 1, 1, 0, 1] [] (codeOf Try.f22) (k22 N) (h22_5 w0 w1 w2 w3 w4 w5 w6 w7 w8 w9 w10 w11 w12 w13 w14 w15 w16 w17 w18)) u3_0 u3_1 u3_2 u3_3 u3_4 u3_5 u3_6 u3_7 u3_8 u3_9 u3_10 u3_11 u3_12 u3_13 u3_14 u3_15 u3_16 u3_17 u3_18 u3_19 u3_20 u3_21 from e) ?_
  have e4 : (fun w0 w1 w2 w3 w4 w5 w6 w7 w8 w9 w10 w11 w12 w13 w14 w15 w16 w17 w18 => cutAt (c22 N) a22 [1, 1, 1, 1, 1, 1, 1] [] (codeOf Try.f22) (k22 N) (h22_4 w0 w1 w2 w3 w4 w5 w6 w7 w8 w9 w10 w11 w12 w13 w14 w15 w16 w17 w18)) = m_script_Next_l4 N := by
    funext w0 w1 w2 w3 w4 w5 w6 w7 w8 w9 w10 w11 w12 w13 w14 w15 w16 w17 w18; exact t22_4 N w0 w1 w2 w3 w4 w5 w6 w7 w8 w9 w10 w11 w12 w13 w14 w15 w16 w17 w18
  rw [e4]
  have e5 : (fun w0 w1 w2 w3 w4 w5 w6 w7 w8 w9 w10 w11 w12 w13 w14 w15 w16 w17 w18 => cutAt (c22 N) a22 [1, 1, 1, 1, 1, 1, 0, 1, 0, 1, 1, 1, 1, 1, 0, 1] [] (codeOf Try.f22) (k22 N) (h22_5 w0 w1 w2 w3 w4 w5 w6 w7 w8 w9 w10 w11 w12 w13 w14 w15 w16 w17 w18)) = m_script_Next_l5 N := by
    funext w0 w1 w2 w3 w4 w5 w6 w7 w8 w9 w10 w11 w12 w13 w14 w15 w16 w17 w18; exact t22_5 N w0 w1 w2 w3 w4 w5 w6 w7 w8 w9 w10 w11 w12 w13 w14 w15 w16 w17 w18
  rw [e5]
  rfl
theorem x22_2 : ∀ (N : Nat) (u2_0 : (List Int)) (u2_1 : Int) (u2_2 : Int) (u2_3 : Int) (u2_4 : Int) (u2_5 : Int) (u2_6 : Int) (u2_7 : Int) (u2_8 : ByteArray) (u2_9 : ByteArray) (u2_10 : ByteArray) (u2_11 : Int) (u2_12 : (List Int)) (u2_13 : Int) (u2_14 : Int) (u2_15 : Int) (u2_16 : Int) (u2_17 : Int) (u2_18 : ByteArray) (u2_19 : ByteArray) (u2_20 : ByteArray) (u2_21 : Int) (F4 : St → (Ex → St → Option ((Int × (Int × (Int × (Int × (ByteArray × (ByteArray × (ByteArray × (Int × Unit)))))))) × Int × Int)) → Option ((Int × (Int × (Int × (Int × (ByteArray × (ByteArray × (ByteArray × (Int × Unit)))))))) × Int × Int)) (F5 : St → (Ex → St → Option ((Int × (Int × (Int × (Int × (ByteArray × (ByteArray × (ByteArray × (Int × Unit)))))))) × Int × Int)) → Option ((Int × (Int × (Int × (Int × (ByteArray × (ByteArray × (ByteArray × (Int × Unit)))))))) × Int × Int)) (F3 : St → (Ex → St → Option ((Int × (Int × (Int × (Int × (ByteArray × (ByteArray × (ByteArray × (Int × Unit)))))))) × Int × Int)) → Option ((Int × (Int × (Int × (Int × (ByteArray × (ByteArray × (ByteArray × (Int × Unit)))))))) × Int × Int)) (F2 : St → (Ex → St → Option ((Int × (Int × (Int × (Int × (ByteArray × (ByteArray × (ByteArray × (Int × Unit)))))))) × Int × Int)) → Option ((Int × (Int × (Int × (Int × (ByteArray × (ByteArray × (ByteArray × (Int × Unit)))))))) × Int × Int)) (F1 : St → (Ex → St → Option ((Int × (Int × (Int × (Int × (ByteArray × (ByteArray × (ByteArray × (Int × Unit)))))))) × Int × Int)) → Option ((Int × (Int × (Int × (Int × (ByteArray × (ByteArray × (ByteArray × (Int × Unit)))))))) × Int × Int)) (F0 : St → (Ex → St → Option ((Int × (Int × (Int × (Int × (ByteArray × (ByteArray × (ByteArray × (Int × Unit)))))))) × Int × Int)) → Option ((Int × (Int × (Int × (Int × (ByteArray × (ByteArray × (ByteArray × (Int × Unit)))))))) × Int × Int)), evalX (c22 N) a22 (sx22 F4 F5 F3 F2 F1 F0) (cAt [1, 1, 1, 1, 1, 1] (codeOf Try.f22)) (h22_2 u2_0 u2_1 u2_2 u2_3 u2_4 u2_5 u2_6 u2_7 u2_8 u2_9 u2_10 u2_11 u2_12 u2_13 u2_14 u2_15 u2_16 u2_17 u2_18 u2_19 u2_20 u2_21) (kAtX (c22 N) a22 (sx22 F4 F5 F3 F2 F1 F0) [1, 1, 1, 1, 1, 1] [] (codeOf Try.f22) (k22 N)) = m_script_Next_l2_b (fun w0 w1 w2 w3 w4 w5 w6 w7 w8 w9 w10 w11 w12 w13 w14 w15 w16 w17 w18 w19 w20 w21 => F3 (h22_3 w0 w1 w2 w3 w4 w5 w6 w7 w8 w9 w10 w11 w12 w13 w14 w15 w16 w17 w18 w19 w20 w21) (kAtX (c22 N) a22 (sx22 F4 F5 F3 F2 F1 F0) [1, 1, 1, 1, 1, 1, 0, 1] [] (codeOf Try.f22) (k22 N))) u2_0 u2_1 u2_2 u2_3 u2_4 u2_5 u2_6 u2_7 u2_8 u2_9 u2_10 u2_11 u2_12 u2_13 u2_14 u2_15 u2_16 u2_17 u2_18 u2_19 u2_20 u2_21 := by
  intro N u2_0 u2_1 u2_2 u2_3 u2_4 u2_5 u2_6 u2_7 u2_8 u2_9 u2_10 u2_11 u2_12 u2_13 u2_14 u2_15 u2_16 u2_17 u2_18 u2_19 u2_20 u2_21 F4 F5 F3 F2 F1 F0
  kernel_rfl
theorem t22_2 : ∀ (N : Nat) (u2_0 : (List Int)) (u2_1 : Int) (u2_2 : Int) (u2_3 : Int) (u2_4 : Int) (u2_5 : Int) (u2_6 : Int) (u2_7 : Int) (u2_8 : ByteArray) (u2_9 : ByteArray) (u2_10 : ByteArray) (u2_11 : Int) (u2_12 : (List Int)) (u2_13 : Int) (u2_14 : Int) (u2_15 : Int) (u2_16 : Int) (u2_17 : Int) (u2_18 : ByteArray) (u2_19 : ByteArray) (u2_20 : ByteArray) (u2_21 : Int), cutAt (c22 N) a22 [1, 1, 1, 1, 1, 1] [] (codeOf Try.f22) (k22 N) (h22_2 u2_0 u2_1 u2_2 u2_3 u2_4 u2_5 u2_6 u2_7 u2_8 u2_9 u2_10 u2_11 u2_12 u2_13 u2_14 u2_15 u2_16 u2_17 u2_18 u2_19 u2_20 u2_21) = m_script_Next_l2 N u2_0 u2_1 u2_2 u2_3 u2_4 u2_5 u2_6 u2_7 u2_8 u2_9 u2_10 u2_11 u2_12 u2_13 u2_14 u2_15 u2_16 u2_17 u2_18 u2_19 u2_20 u2_21 := by
  intro N u2_0 u2_1 u2_2 u2_3 u2_4 u2_5 u2_6 u2_7 u2_8 u2_9 u2_10 u2_11 u2_12 u2_13 u2_14 u2_15 u2_16 u2_17 u2_18 u2_19 u2_20 u2_21
  have e := x22_2 N u2_0 u2_1 u2_2 u2_3 u2_4 u2_5 u2_6 u2_7 u2_8 u2_9 u2_10 u2_11 u2_12 u2_13 u2_14 u2_15 u2_16 u2_17 u2_18 u2_19 u2_20 u2_21 (evalK (c22 N) a22 (cAt [1, 1, 1, 1, 1, 1, 1] (codeOf Try.f22))) (evalK (c22 N) a22 (cAt [1, 1, 1, 1, 1, 1, 0, 1, 0, 1, 1, 1, 1, 1, 0, 1] (codeOf Try.f22))) (evalK (c22 N) a22 (cAt [1, 1, 1, 1, 1, 1, 0, 1] (codeOf Try.f22))) (evalK (c22 N) a22 (cAt [1, 1, 1, 1, 1, 1] (codeOf Try.f22))) (evalK (c22 N) a22 (cAt [1, 1, 1, 1, 1] (codeOf Try.f22))) (evalK (c22 N) a22 (cAt [1, 1, 1, 1] (codeOf Try.f22)))
  rw [evalX_eq (right_at [1, 1, 1, 1, 1, 1] (rx22 N)), kAtX_eq (rx22 N) [1, 1, 1, 1, 1, 1], kAtX_eq (rx22 N) [1, 1, 1, 1, 1, 1, 0, 1]] at e
  refine Eq.trans (show cutAt (c22 N) a22 [1, 1, 1, 1, 1, 1] [] (codeOf Try.f22) (k22 N) (h22_2 u2_0 u2_1 u2_2 u2_3 u2_4 u2_5 u2_6 u2_7 u2_8 u2_9 u2_10 u2_11 u2_12 u2_13 u2_14 u2_15 u2_16 u2_17 u2_18 u2_19 u2_20 u2_21) = m_script_Next_l2_b (fun w0 w1 w2 w3 w4 w5 w6 w7 w8 w9 w10 w11 w12 w13 w14 w15 w16 w17 w18 w19 w20 w21 => cutAt (c22 N) a22 [1, 1, 1, 1, 1, 1, 0, 1] [] (codeOf Try.f22) (k22 N) (h22_3 w0 w1 w2 w3 w4 w5 w6 w7 w8 w9 w10 w11 w12 w13 w14 w15 w16 w17 w18 w19 w20 w21)) u2_0 u2_1 u2_2 u2_3 u2_4 u2_5 u2_6 u2_7 u2_8 u2_9 u2_10 u2_11 u2_12 u2_13 u2_14 u2_15 u2_16 u2_17 u2_18 u2_19 u2_20 u2_21 from e) ?_
  have e3 : (fun w0 w1 w2 w3 w4 w5 w6 w7 w8 w9 w10 w11 w12 w13 w14 w15 w16 w17 w18 w19 w20 w21 => cutAt (c22 N) a22 [1, 1, 1, 1, 1, 1, 0, 1] [] (codeOf Try.f22) (k22 N) (h22_3 w0 w1 w2 w3 w4 w5 w6 w7 w8 w9 w10 w11 w12 w13 w14 w15 w16 w17 w18 w19 w20 w21)) = m_script_Next_l3 N := by
    funext w0 w1 w2 w3 w4 w5 w6 w7 w8 w9 w10 w11 w12 w13 w14 w15 w16 w17 w18 w19 w20 w21; exact t22_3 N w0 w1 w2 w3 w4 w5 w6 w7 w8 w9 w10 w11 w12 w13 w14 w15 w16 w17 w18 w19 w20 w21
  rw [e3]
  rfl
theorem x22_1 : ∀ (N : Nat) (u1_0 : (List Int)) (u1_1 : Int) (u1_2 : Int) (u1_3 : Int) (u1_4 : Int) (u1_5 : Int) (u1_6 : Int) (u1_7 : Int) (u1_8 : ByteArray) (u1_9 : ByteArray) (u1_10 : ByteArray) (u1_11 : Int) (u1_12 : (List Int)) (u1_13 : Int) (F4 : St → (Ex → St → Option ((Int × (Int × (Int × (Int × (ByteArray × (ByteArray × (ByteArray × (Int × Unit)))))))) × Int × Int)) → Option ((Int × (Int × (Int × (Int × (ByteArray × (ByteArray × (ByteArray × (Int × Unit)))))))) × Int × Int)) (F5 : St → (Ex → St → Option ((Int × (Int × (Int × (Int × (ByteArray × (ByteArray × (ByteArray × (Int × Unit)))))))) × Int × Int)) → Option ((Int × (Int × (Int × (Int × (ByteArray × (ByteArray × (ByteArray × (Int × Unit)))))))) × Int × Int)) (F3 : St → (Ex → St → Option ((Int × (Int × (Int × (Int × (ByteArray × (ByteArray × (ByteArray × (Int × Unit)))))))) × Int × Int)) → Option ((Int × (Int × (Int × (Int × (ByteArray × (ByteArray × (ByteArray × (Int × Unit)))))))) × Int × Int)) (F2 : St → (Ex → St → Option ((Int × (Int × (Int × (Int × (ByteArray × (ByteArray × (ByteArray × (Int × Unit)))))))) × Int × Int)) → Option ((Int × (Int × (Int × (Int × (ByteArray × (ByteArray × (ByteArray × (Int × Unit)))))))) × Int × Int)) (F1 : St → (Ex → St → Option ((Int × (Int × (Int × (Int × (ByteArray × (ByteArray × (ByteArray × (Int × Unit)))))))) × Int × Int)) → Option ((Int × (Int × (Int × (Int × (ByteArray × (ByteArray × (ByteArray × (Int × Unit)))))))) × Int × Int)) (F0 : St → (Ex → St → Option ((Int × (Int × (Int × (Int × (ByteArray × (ByteArray × (ByteArray × (Int × Unit)))))))) × Int × Int)) → Option ((Int × (Int × (Int × (Int × (ByteArray × (ByteArray × (ByteArray × (Int × Unit)))))))) × Int × Int)), evalX (c22 N) a22 (sx22 F4 F5 F3 F2 F1 F0) (cAt [1, 1, 1, 1, 1] (codeOf Try.f22)) (h22_1 u1_0 u1_1 u1_2 u1_3 u1_4 u1_5 u1_6 u1_7 u1_8 u1_9 u1_10 u1_11 u1_12 u1_13) (kAtX (c22 N) a22 (sx22 F4 F5 F3 F2 F1 F0) [1, 1, 1, 1, 1] [] (codeOf Try.f22) (k22 N)) = m_script_Next_l1_b (fun w0 w1 w2 w3 w4 w5 w6 w7 w8 w9 w10 w11 w12 w13 w14 w15 w16 w17 w18 w19 w20 w21 => F2 (h22_2 w0 w1 w2 w3 w4 w5 w6 w7 w8 w9 w10 w11 w12 w13 w14 w15 w16 w17 w18 w19 w20 w21) (kAtX (c22 N) a22 (sx22 F4 F5 F3 F2 F1 F0) [1, 1, 1, 1, 1, 1] [] (codeOf Try.f22) (k22 N))) u1_0 u1_1 u1_2 u1_3 u1_4 u1_5 u1_6 u1_7 u1_8 u1_9 u1_10 u1_11 u1_12 u1_13 := by
  intro N u1_0 u1_1 u1_2 u1_3 u1_4 u1_5 u1_6 u1_7 u1_8 u1_9 u1_10 u1_11 u1_12 u1_13 F4 F5 F3 F2 F1 F0
  kernel_rfl
theorem t22_1 : ∀ (N : Nat) (u1_0 : (List Int)) (u1_1 : Int) (u1_2 : Int) (u1_3 : Int) (u1_4 : Int) (u1_5 : Int) (u1_6 : Int) (u1_7 : Int) (u1_8 : ByteArray) (u1_9 : ByteArray) (u1_10 : ByteArray) (u1_11 : Int) (u1_12 : (List Int)) (u1_13 : Int), cutAt (c22 N) a22 [1, 1, 1, 1, 1] [] (codeOf Try.f22) (k22 N) (h22_1 u1_0 u1_1 u1_2 u1_3 u1_4 u1_5 u1_6 u1_7 u1_8 u1_9 u1_10 u1_11 u1_12 u1_13) = m_script_Next_l1 N u1_0 u1_1 u1_2 u1_3 u1_4 u1_5 u1_6 u1_7 u1_8 u1_9 u1_10 u1_11 u1_12 u1_13 := by
  intro N u1_0 u1_1 u1_2 u1_3 u1_4 u1_5 u1_6 u1_7 u1_8 u1_9 u1_10 u1_11 u1_12 u1_13
  have e := x22_1 N u1_0 u1_1 u1_2 u1_3 u1_4 u1_5 u1_6 u1_7 u1_8 u1_9 u1_10 u1_11 u1_12 u1_13 (evalK (c22 N) a22 (cAt [1, 1, 1, 1, 1, 1, 1] (codeOf Try.f22))) (evalK (c22 N) a22 (cAt [1, 1, 1, 1, 1, 1, 0, 1, 0, 1, 1, 1, 1, 1, 0, 1] (codeOf Try.f22))) (evalK (c22 N) a22 (cAt [1, 1, 1, 1, 1, 1, 0, 1] (codeOf Try.f22))) (evalK (c22 N) a22 (cAt [1, 1, 1, 1, 1, 1] (codeOf Try.f22))) (evalK (c22 N) a22 (cAt [1, 1, 1, 1, 1] (codeOf Try.f22))) (evalK (c22 N) a22 (cAt [1, 1, 1, 1] (codeOf Try.f22)))
  rw [evalX_eq (right_at [1, 1, 1, 1, 1] (rx22 N)), kAtX_eq (rx22 N) [1, 1, 1, 1, 1], kAtX_eq (rx22 N) [1, 1, 1, 1, 1, 1]] at e
  refine Eq.trans (show cutAt (c22 N) a22 [1, 1, 1, 1, 1] [] (codeOf Try.f22) (k22 N) (h22_1 u1_0 u1_1 u1_2 u1_3 u1_4 u1_5 u1_6 u1_7 u1_8 u1_9 u1_10 u1_11 u1_12 u1_13) = m_script_Next_l1_b (fun w0 w1 w2 w3 w4 w5 w6 w7 w8 w9 w10 w11 w12 w13 w14 w15 w16 w17 w18 w19 w20 w21 => cutAt (c22 N) a22 [1, 1, 1, 1, 1, 1] [] (codeOf Try.f22) (k22 N) (h22_2 w0 w1 w2 w3 w4 w5 w6 w7 w8 w9 w10 w11 w12 w13 w14 w15 w16 w17 w18 w19 w20 w21)) u1_0 u1_1 u1_2 u1_3 u1_4 u1_5 u1_6 u1_7 u1_8 u1_9 u1_10 u1_11 u1_12 u1_13 from e) ?_
  have e2 : (fun w0 w1 w2 w3 w4 w5 w6 w7 w8 w9 w10 w11 w12 w13 w14 w15 w16 w17 w18 w19 w20 w21 => cutAt (c22 N) a22 [1, 1, 1, 1, 1, 1] [] (codeOf Try.f22) (k22 N) (h22_2 w0 w1 w2 w3 w4 w5 w6 w7 w8 w9 w10 w11 w12 w13 w14 w15 w16 w17 w18 w19 w20 w21)) = m_script_Next_l2 N := by
    funext w0 w1 w2 w3 w4 w5 w6 w7 w8 w9 w10 w11 w12 w13 w14 w15 w16 w17 w18 w19 w20 w21; exact t22_2 N w0 w1 w2 w3 w4 w5 w6 w7 w8 w9 w10 w11 w12 w13 w14 w15 w16 w17 w18 w19 w20 w21
  rw [e2]
  rfl
theorem x22_0 : ∀ (N : Nat) (u0_0 : (List Int)) (u0_1 : Int) (u0_2 : Int) (u0_3 : Int) (u0_4 : Int) (u0_5 : Int) (u0_6 : Int) (u0_7 : ByteArray) (u0_8 : ByteArray) (u0_9 : ByteArray) (u0_10 : Int) (u0_11 : (List Int)) (u0_12 : Int) (F4 : St → (Ex → St → Option ((Int × (Int × (Int × (Int × (ByteArray × (ByteArray × (ByteArray × (Int × Unit)))))))) × Int × Int)) → Option ((Int × (Int × (Int × (Int × (ByteArray × (ByteArray × (ByteArray × (Int × Unit)))))))) × Int × Int)) (F5 : St → (Ex → St → Option ((Int × (Int × (Int × (Int × (ByteArray × (ByteArray × (ByteArray × (Int × Unit)))))))) × Int × Int)) → Option ((Int × (Int × (Int × (Int × (ByteArray × (ByteArray × (ByteArray × (Int × Unit)))))))) × Int × Int)) (F3 : St → (Ex → St → Option ((Int × (Int × (Int × (Int × (ByteArray × (ByteArray × (ByteArray × (Int × Unit)))))))) × Int × Int)) → Option ((Int × (Int × (Int × (Int × (ByteArray × (ByteArray × (ByteArray × (Int × Unit)))))))) × Int × Int)) (F2 : St → (Ex → St → Option ((Int × (Int × (Int × (Int × (ByteArray × (ByteArray × (ByteArray × (Int × Unit)))))))) × Int × Int)) → Option ((Int × (Int × (Int × (Int × (ByteArray × (ByteArray × (ByteArray × (Int × Unit)))))))) × Int × Int)) (F1 : St → (Ex → St → Option ((Int × (Int × (Int × (Int × (ByteArray × (ByteArray × (ByteArray × (Int × Unit)))))))) × Int × Int)) → Option ((Int × (Int × (Int × (Int × (ByteArray × (ByteArray × (ByteArray × (Int × Unit)))))))) × Int × Int)) (F0 : St → (Ex → St → Option ((Int × (Int × (Int × (Int × (ByteArray × (ByteArray × (ByteArray × (Int × Unit)))))))) × Int × Int)) → Option ((Int × (Int × (Int × (Int × (ByteArray × (ByteArray × (ByteArray × (Int × Unit)))))))) × Int × Int)), evalX (c22 N) a22 (sx22 F4 F5 F3 F2 F1 F0) (cAt [1, 1, 1, 1] (codeOf Try.f22)) (h22_0 u0_0 u0_1 u0_2 u0_3 u0_4 u0_5 u0_6 u0_7 u0_8 u0_9 u0_10 u0_11 u0_12) (kAtX (c22 N) a22 (sx22 F4 F5 F3 F2 F1 F0) [1, 1, 1, 1] [] (codeOf Try.f22) (k22 N)) = m_script_Next_l0_b (fun w0 w1 w2 w3 w4 w5 w6 w7 w8 w9 w10 w11 w12 w13 => F1 (h22_1 w0 w1 w2 w3 w4 w5 w6 w7 w8 w9 w10 w11 w12 w13) (kAtX (c22 N) a22 (sx22 F4 F5 F3 F2 F1 F0) [1, 1, 1, 1, 1] [] (codeOf Try.f22) (k22 N))) u0_0 u0_1 u0_2 u0_3 u0_4 u0_5 u0_6 u0_7 u0_8 u0_9 u0_10 u0_11 u0_12 := by
  intro N u0_0 u0_1 u0_2 u0_3 u0_4 u0_5 u0_6 u0_7 u0_8 u0_9 u0_10 u0_11 u0_12 F4 F5 F3 F2 F1 F0
  kernel_rfl
theorem t22_0 : ∀ (N : Nat) (u0_0 : (List Int)) (u0_1 : Int) (u0_2 : Int) (u0_3 : Int) (u0_4 : Int) (u0_5 : Int) (u0_6 : Int) (u0_7 : ByteArray) (u0_8 : ByteArray) (u0_9 : ByteArray) (u0_10 : Int) (u0_11 : (List Int)) (u0_12 : Int), cutAt (c22 N) a22 [1, 1, 1, 1] [] (codeOf Try.f22) (k22 N) (h22_0 u0_0 u0_1 u0_2 u0_3 u0_4 u0_5 u0_6 u0_7 u0_8 u0_9 u0_10 u0_11 u0_12) = m_script_Next_l0 N u0_0 u0_1 u0_2 u0_3 u0_4 u0_5 u0_6 u0_7 u0_8 u0_9 u0_10 u0_11 u0_12 := by
  intro N u0_0 u0_1 u0_2 u0_3 u0_4 u0_5 u0_6 u0_7 u0_8 u0_9 u0_10 u0_11 u0_12
  have e := x22_0 N u0_0 u0_1 u0_2 u0_3 u0_4 u0_5 u0_6 u0_7 u0_8 u0_9 u0_10 u0_11 u0_12 (evalK (c22 N) a22 (cAt [1, 1, 1, 1, 1, 1, 1] (codeOf Try.f22))) (evalK (c22 N) a22 (cAt [1, 1, 1, 1, 1, 1, 0, 1, 0, 1, 1, 1, 1, 1, 0, 1] (codeOf Try.f22))) (evalK (c22 N) a22 (cAt [1, 1, 1, 1, 1, 1, 0, 1] (codeOf Try.f22))) (evalK (c22 N) a22 (cAt [1, 1, 1, 1, 1, 1] (codeOf Try.f22))) (evalK (c22 N) a22 (cAt [1, 1, 1, 1, 1] (codeOf Try.f22))) (evalK (c22 N) a22 (cAt [1, 1, 1, 1] (codeOf Try.f22)))
  rw [evalX_eq (right_at [1, 1, 1, 1] (rx22 N)), kAtX_eq (rx22 N) [1, 1, 1, 1], kAtX_eq (rx22 N) [1, 1, 1, 1, 1]] at e
  refine Eq.trans (show cutAt (c22 N) a22 [1, 1, 1, 1] [] (codeOf Try.f22) (k22 N) (h22_0 u0_0 u0_1 u0_2 u0_3 u0_4 u0_5 u0_6 u0_7 u0_8 u0_9 u0_10 u0_11 u0_12) = m_script_Next_l0_b (fun w0 w1 w2 w3 w4 w5 w6 w7 w8 w9 w10 w11 w12 w13 => cutAt (c22 N) a22 [1, 1, 1, 1, 1] [] (codeOf Try.f22) (k22 N) (h22_1 w0 w1 w2 w3 w4 w5 w6 w7 w8 w9 w10 w11 w12 w13)) u0_0 u0_1 u0_2 u0_3 u0_4 u0_5 u0_6 u0_7 u0_8 u0_9 u0_10 u0_11 u0_12 from e) ?_
  have e1 : (fun w0 w1 w2 w3 w4 w5 w6 w7 w8 w9 w10 w11 w12 w13 => cutAt (c22 N) a22 [1, 1, 1, 1, 1] [] (codeOf Try.f22) (k22 N) (h22_1 w0 w1 w2 w3 w4 w5 w6 w7 w8 w9 w10 w11 w12 w13)) = m_script_Next_l1 N := by
    funext w0 w1 w2 w3 w4 w5 w6 w7 w8 w9 w10 w11 w12 w13; exact t22_1 N w0 w1 w2 w3 w4 w5 w6 w7 w8 w9 w10 w11 w12 w13
  rw [e1]
  rfl
theorem ew22 : ∀ (N : Nat) (x : g22.ps.den), evalFn (c22 N) an22 Try.f22 (codeOf Try.f22) g22 x (fun p => (p.1.1, p.1.2.1, p.1.2.2.1)) = m_script_Next_a (m_script_Next_l0 N) x.1 x.2.1 := by
  intro N
  intro x
  obtain ⟨x0, x1, xu⟩ := x
  have e : evalFn (c22 N) an22 Try.f22 (codeOf Try.f22) g22 (x0, x1, xu) (fun p => (p.1.1, p.1.2.1, p.1.2.2.1)) = m_script_Next_a (fun w0 w1 w2 w3 w4 w5 w6 w7 w8 w9 w10 w11 w12 => cutAt (c22 N) a22 [1, 1, 1, 1] [] (codeOf Try.f22) (k22 N) (h22_0 w0 w1 w2 w3 w4 w5 w6 w7 w8 w9 w10 w11 w12)) x0 x1 := by kernel_rfl
  refine e.trans ?_
  have e0 : (fun w0 w1 w2 w3 w4 w5 w6 w7 w8 w9 w10 w11 w12 => cutAt (c22 N) a22 [1, 1, 1, 1] [] (codeOf Try.f22) (k22 N) (h22_0 w0 w1 w2 w3 w4 w5 w6 w7 w8 w9 w10 w11 w12)) = m_script_Next_l0 N := by
    funext w0 w1 w2 w3 w4 w5 w6 w7 w8 w9 w10 w11 w12; exact t22_0 N w0 w1 w2 w3 w4 w5 w6 w7 w8 w9 w10 w11 w12
  rw [e0]
theorem ev22 : ∀ x : g22.ps.den, evalFn (c22 FUEL) an22 Try.f22 (codeOf Try.f22) g22 x (fun p => (p.1.1, p.1.2.1, p.1.2.2.1)) = g22.m x := fun x => ew22 FUEL x
theorem meets22 : Meets Try.prog 22 g22 :=
  meets_of (C := c22 FUEL) (ann := an22) (mkC_ok (gs := []) (is := [(32, i32), (33, i33)]) (mt := mtL) tysOK elemOK trivial ⟨inl32, inl33, trivial⟩ mtOK FUEL) mixed Try.func22 (by kernel_rfl) (by kernel_rfl) (by kernel_rfl) (of_decide_eq_true (by kernel_rfl)) (fun p => (p.1.1, p.1.2.1, p.1.2.2.1)) (fun _ _ => ⟨rfl, rfl⟩) ev22
def c21 (N : Nat) : Cx := mkC tyL [(22, g22)] [] mtL N
def g21 : Sig := ⟨(.cons (.pure (.sl (.int .u8))) (.cons (.pure (.int .i64)) .nl)), (.cons (.own (.pair (.int .i64) (.pair (.int .i64) (.pair (.int .i64) (.pair (.int .i64) (.pair .str (.pair .str (.pair .str (.pair (.int .i64) .nl))))))))) (.cons (.pure (.int .i64)) .nl)), ((List (Int × (Int × (Int × (Int × (ByteArray × (ByteArray × (ByteArray × (Int × Unit))))))))) × Int), fun x => m_script_Parse x.1 x.2.1, fun _ y => (y.1, (y.2, ())), fun _ y => ((), ((), ()))⟩
def an21 : Nat → Ann := mkA [(6, ⟨[0, 1], [(6, (.pair (.int .i64) (.pair (.int .i64) (.pair (.int .i64) (.pair (.int .i64) (.pair .str (.pair .str (.pair .str (.pair (.int .i64) .nl)))))))))], [], false⟩)]
noncomputable def k21 (N : Nat) : Ex → St → Option ((List (Int × (Int × (Int × (Int × (ByteArray × (ByteArray × (ByteArray × (Int × Unit))))))))) × Int) := finK (c21 N) Try.f21 g21 (.cons .top (.cons .top .nl)) (fun p => (p.1.1, p.1.2.1))
def a21 : Nat → Ann := annP [] an21
def h21_0 (u0_0 : (List Int)) (u0_1 : Int) (u0_2 : (List (Int × (Int × (Int × (Int × (ByteArray × (ByteArray × (ByteArray × (Int × Unit)))))))))) : St := ⟨42, [(6, .full 300006), (0, (.lst (.int .u8) u0_0)), (1, (.int .i64 u0_1))], [(300006, (.bk (.pair (.int .i64) (.pair (.int .i64) (.pair (.int .i64) (.pair (.int .i64) (.pair .str (.pair .str (.pair .str (.pair (.int .i64) .nl)))))))) u0_2))]⟩
theorem t21_0 : ∀ (N : Nat) (n : Nat) (u0_0 : (List Int)) (u0_1 : Int) (u0_2 : (List (Int × (Int × (Int × (Int × (ByteArray × (ByteArray × (ByteArray × (Int × Unit)))))))))), loopAt (c21 N) a21 [1, 1, 1, 0, 0] [] (codeOf Try.f21) (k21 N) n (h21_0 u0_0 u0_1 u0_2) = m_script_Parse_l0 N n u0_0 u0_1 u0_2 := by
  intro N n
  induction n with
  | zero => intro u0_0 u0_1 u0_2; kernel_rfl
  | succ n ih =>
    intro u0_0 u0_1 u0_2
    have e : loopAt (c21 N) a21 [1, 1, 1, 0, 0] [] (codeOf Try.f21) (k21 N) (n + 1) (h21_0 u0_0 u0_1 u0_2) = m_script_Parse_l0_b (fun w0 w1 w2 => loopAt (c21 N) a21 [1, 1, 1, 0, 0] [] (codeOf Try.f21) (k21 N) n (h21_0 w0 w1 w2)) u0_0 u0_1 u0_2 := by kernel_rfl
    refine e.trans ?_
    have es : (fun w0 w1 w2 => loopAt (c21 N) a21 [1, 1, 1, 0, 0] [] (codeOf Try.f21) (k21 N) n (h21_0 w0 w1 w2)) = m_script_Parse_l0 N n := by
      funext w0 w1 w2; exact ih w0 w1 w2
    rw [es]
    rw [m_script_Parse_l0]
theorem ew21 : ∀ (N : Nat) (x : g21.ps.den), evalFn (c21 N) an21 Try.f21 (codeOf Try.f21) g21 x (fun p => (p.1.1, p.1.2.1)) = m_script_Parse_a (m_script_Parse_l0 N N) x.1 x.2.1 := by
  intro N
  intro x
  obtain ⟨x0, x1, xu⟩ := x
  have e : evalFn (c21 N) an21 Try.f21 (codeOf Try.f21) g21 (x0, x1, xu) (fun p => (p.1.1, p.1.2.1)) = m_script_Parse_a (fun w0 w1 w2 => loopAt (c21 N) a21 [1, 1, 1, 0, 0] [] (codeOf Try.f21) (k21 N) N (h21_0 w0 w1 w2)) x0 x1 := by kernel_rfl
  refine e.trans ?_
  have e0 : (fun w0 w1 w2 => loopAt (c21 N) a21 [1, 1, 1, 0, 0] [] (codeOf Try.f21) (k21 N) N (h21_0 w0 w1 w2)) = m_script_Parse_l0 N N := by
    funext w0 w1 w2; exact t21_0 N N w0 w1 w2
  rw [e0]
theorem ev21 : ∀ x : g21.ps.den, evalFn (c21 FUEL) an21 Try.f21 (codeOf Try.f21) g21 x (fun p => (p.1.1, p.1.2.1)) = g21.m x := fun x => ew21 FUEL x
theorem meets21 : Meets Try.prog 21 g21 :=
  meets_of (C := c21 FUEL) (ann := an21) (mkC_ok (gs := [(22, g22)]) (is := []) (mt := mtL) tysOK elemOK ⟨meets22, trivial⟩ trivial mtOK FUEL) mixed Try.func21 (by kernel_rfl) (by kernel_rfl) (by kernel_rfl) (of_decide_eq_true (by kernel_rfl)) (fun p => (p.1.1, p.1.2.1)) (fun _ _ => ⟨rfl, rfl⟩) ev21
def c25 (N : Nat) : Cx := mkC tyL [] [] mtL N
def g25 : Sig := ⟨(.cons (.pure (.sl (.pair (.int .i64) (.pair (.int .i64) (.pair (.int .i64) (.pair (.int .i64) (.pair .str (.pair .str (.pair .str (.pair (.int .i64) .nl)))))))))) (.cons (.pure (.sl (.pair (.int .i64) (.pair (.int .i64) (.pair (.int .i64) (.pair (.int .i64) (.pair .str (.pair .str (.pair .str (.pair (.int .i64) .nl)))))))))) .nl)), (.cons (.pure .bool) .nl), Bool, fun x => m_ticketlineref04_Same x.1 x.2.1, fun _ y => (y, ()), fun _ y => ((), ((), ()))⟩
def an25 : Nat → Ann := mkA [(4, ⟨[0, 1, 5], [], [], false⟩)]
noncomputable def k25 (N : Nat) : Ex → St → Option Bool := finK (c25 N) Try.f25 g25 (.cons .top (.cons .top .nl)) (fun p => p.1.1)
def a25 : Nat → Ann := annP [] an25
def h25_0 (u0_0 : (List (Int × (Int × (Int × (Int × (ByteArray × (ByteArray × (ByteArray × (Int × Unit)))))))))) (u0_1 : (List (Int × (Int × (Int × (Int × (ByteArray × (ByteArray × (ByteArray × (Int × Unit)))))))))) (u0_2 : Int) : St := ⟨26, [(0, (.lst (.pair (.int .i64) (.pair (.int .i64) (.pair (.int .i64) (.pair (.int .i64) (.pair .str (.pair .str (.pair .str (.pair (.int .i64) .nl)))))))) u0_0)), (1, (.lst (.pair (.int .i64) (.pair (.int .i64) (.pair (.int .i64) (.pair (.int .i64) (.pair .str (.pair .str (.pair .str (.pair (.int .i64) .nl)))))))) u0_1)), (5, (.int .i64 u0_2))], []⟩
theorem t25_0 : ∀ (N : Nat) (n : Nat) (u0_0 : (List (Int × (Int × (Int × (Int × (ByteArray × (ByteArray × (ByteArray × (Int × Unit)))))))))) (u0_1 : (List (Int × (Int × (Int × (Int × (ByteArray × (ByteArray × (ByteArray × (Int × Unit)))))))))) (u0_2 : Int), loopAt (c25 N) a25 [1, 1, 0, 1, 0] [] (codeOf Try.f25) (k25 N) n (h25_0 u0_0 u0_1 u0_2) = m_ticketlineref04_Same_l0 N n u0_0 u0_1 u0_2 := by
  intro N n
  induction n with
  | zero => intro u0_0 u0_1 u0_2; kernel_rfl
  | succ n ih =>
    intro u0_0 u0_1 u0_2
    have e : loopAt (c25 N) a25 [1, 1, 0, 1, 0] [] (codeOf Try.f25) (k25 N) (n + 1) (h25_0 u0_0 u0_1 u0_2) = m_ticketlineref04_Same_l0_b (fun w0 w1 w2 => loopAt (c25 N) a25 [1, 1, 0, 1, 0] [] (codeOf Try.f25) (k25 N) n (h25_0 w0 w1 w2)) u0_0 u0_1 u0_2 := by kernel_rfl
    refine e.trans ?_
    have es : (fun w0 w1 w2 => loopAt (c25 N) a25 [1, 1, 0, 1, 0] [] (codeOf Try.f25) (k25 N) n (h25_0 w0 w1 w2)) = m_ticketlineref04_Same_l0 N n := by
      funext w0 w1 w2; exact ih w0 w1 w2
    rw [es]
    rw [m_ticketlineref04_Same_l0]
theorem ew25 : ∀ (N : Nat) (x : g25.ps.den), evalFn (c25 N) an25 Try.f25 (codeOf Try.f25) g25 x (fun p => p.1.1) = m_ticketlineref04_Same_a (m_ticketlineref04_Same_l0 N N) x.1 x.2.1 := by
  intro N
  intro x
  obtain ⟨x0, x1, xu⟩ := x
  have e : evalFn (c25 N) an25 Try.f25 (codeOf Try.f25) g25 (x0, x1, xu) (fun p => p.1.1) = m_ticketlineref04_Same_a (fun w0 w1 w2 => loopAt (c25 N) a25 [1, 1, 0, 1, 0] [] (codeOf Try.f25) (k25 N) N (h25_0 w0 w1 w2)) x0 x1 := by kernel_rfl
  refine e.trans ?_
  have e0 : (fun w0 w1 w2 => loopAt (c25 N) a25 [1, 1, 0, 1, 0] [] (codeOf Try.f25) (k25 N) N (h25_0 w0 w1 w2)) = m_ticketlineref04_Same_l0 N N := by
    funext w0 w1 w2; exact t25_0 N N w0 w1 w2
  rw [e0]
theorem ev25 : ∀ x : g25.ps.den, evalFn (c25 FUEL) an25 Try.f25 (codeOf Try.f25) g25 x (fun p => p.1.1) = g25.m x := fun x => ew25 FUEL x
theorem meets25 : Meets Try.prog 25 g25 :=
  meets_of (C := c25 FUEL) (ann := an25) (mkC_ok (gs := []) (is := []) (mt := mtL) tysOK elemOK trivial trivial mtOK FUEL) mixed Try.func25 (by kernel_rfl) (by kernel_rfl) (by kernel_rfl) (of_decide_eq_true (by kernel_rfl)) (fun p => p.1.1) (fun _ _ => ⟨rfl, rfl⟩) ev25
def c9 (N : Nat) : Cx := mkC tyL [(21, g21), (25, g25)] [] mtL N
def g9 : Sig := ⟨(.cons (.pure (.sl (.int .u8))) (.cons (.pure (.int .i64)) (.cons (.pure (.int .i64)) (.cons (.pure (.sl (.pair (.int .i64) (.pair (.int .i64) (.pair (.int .i64) (.pair (.int .i64) (.pair .str (.pair .str (.pair .str (.pair (.int .i64) .nl)))))))))) .nl)))), (.cons (.pure .bool) .nl), Bool, fun x => m_ticketlinelaw04_parses x.1 x.2.1 x.2.2.1 x.2.2.2.1, fun _ y => (y, ()), fun _ y => ((), ((), ((), ((), ()))))⟩
def an9 : Nat → Ann := mkA []
theorem ev9 : ∀ x : g9.ps.den, evalFn (c9 FUEL) an9 Try.f9 (codeOf Try.f9) g9 x (fun p => p.1.1) = g9.m x := by
  intro x
  obtain ⟨x0, x1, x2, x3, xu⟩ := x
  show _ = _
  kernel_rfl
theorem meets9 : Meets Try.prog 9 g9 :=
  meets_of (C := c9 FUEL) (ann := an9) (mkC_ok (gs := [(21, g21), (25, g25)]) (is := []) (mt := mtL) tysOK elemOK ⟨meets21, meets25, trivial⟩ trivial mtOK FUEL) mixed Try.func9 (by kernel_rfl) (by kernel_rfl) (by kernel_rfl) (of_decide_eq_true (by kernel_rfl)) (fun p => p.1.1) (fun _ _ => ⟨rfl, rfl⟩) ev9
def c10 (N : Nat) : Cx := mkC tyL [(22, g22)] [] mtL N
def g10 : Sig := ⟨(.cons (.pure (.sl (.int .u8))) (.cons (.pure (.int .i64)) (.cons (.pure (.pair (.int .i64) (.pair (.int .i64) (.pair (.int .i64) (.pair (.int .i64) (.pair .str (.pair .str (.pair .str (.pair (.int .i64) .nl))))))))) (.cons (.pure (.int .i64)) (.cons (.pure (.int .i64)) .nl))))), (.cons (.pure .bool) .nl), Bool, fun x => m_ticketlinelaw04_next x.1 x.2.1 x.2.2.1 x.2.2.2.1 x.2.2.2.2.1, fun _ y => (y, ()), fun _ y => ((), ((), ((), ((), ((), ())))))⟩
def an10 : Nat → Ann := mkA []
theorem ev10 : ∀ x : g10.ps.den, evalFn (c10 FUEL) an10 Try.f10 (codeOf Try.f10) g10 x (fun p => p.1.1) = g10.m x := by
  intro x
  obtain ⟨x0, x1, x2, x3, x4, xu⟩ := x
  show _ = _
  kernel_rfl
theorem meets10 : Meets Try.prog 10 g10 :=
  meets_of (C := c10 FUEL) (ann := an10) (mkC_ok (gs := [(22, g22)]) (is := []) (mt := mtL) tysOK elemOK ⟨meets22, trivial⟩ trivial mtOK FUEL) mixed Try.func10 (by kernel_rfl) (by kernel_rfl) (by kernel_rfl) (of_decide_eq_true (by kernel_rfl)) (fun p => p.1.1) (fun _ _ => ⟨rfl, rfl⟩) ev10
def c40 (N : Nat) : Cx := mkC tyL [] [] mtL N
def g40 : Sig := ⟨(.cons (.pure (.pair (.int .i64) (.pair (.int .i64) (.pair (.int .i64) (.pair (.int .i64) (.pair .str (.pair .str (.pair .str (.pair (.int .i64) .nl))))))))) .nl), (.cons (.pure (.pair (.int .i64) (.pair (.int .i64) (.pair (.int .i64) (.pair (.int .i64) (.pair .str (.pair .str (.pair .str (.pair (.int .i64) .nl))))))))) .nl), (Int × (Int × (Int × (Int × (ByteArray × (ByteArray × (ByteArray × (Int × Unit)))))))), fun x => m_script_plain x.1, fun _ y => (y, ()), fun _ y => ((), ())⟩
def an40 : Nat → Ann := mkA []
theorem ev40 : ∀ x : g40.ps.den, evalFn (c40 FUEL) an40 Try.f40 (codeOf Try.f40) g40 x (fun p => p.1.1) = g40.m x := by
  intro x
  obtain ⟨x0, xu⟩ := x
  show _ = _
  kernel_rfl
theorem meets40 : Meets Try.prog 40 g40 :=
  meets_of (C := c40 FUEL) (ann := an40) (mkC_ok (gs := []) (is := []) (mt := mtL) tysOK elemOK trivial trivial mtOK FUEL) mixed Try.func40 (by kernel_rfl) (by kernel_rfl) (by kernel_rfl) (of_decide_eq_true (by kernel_rfl)) (fun p => p.1.1) (fun _ _ => ⟨rfl, rfl⟩) ev40
def c41 (N : Nat) : Cx := mkC tyL [] [] mtL N
def g41 : Sig := ⟨(.cons (.pure (.int .i64)) (.cons (.pure (.int .i64)) (.cons (.pure (.int .i64)) .nl))), (.cons (.pure .bool) .nl), Bool, fun x => m_script_within x.1 x.2.1 x.2.2.1, fun _ y => (y, ()), fun _ y => ((), ((), ((), ())))⟩
def an41 : Nat → Ann := mkA []
theorem ev41 : ∀ x : g41.ps.den, evalFn (c41 FUEL) an41 Try.f41 (codeOf Try.f41) g41 x (fun p => p.1.1) = g41.m x := by
  intro x
  obtain ⟨x0, x1, x2, xu⟩ := x
  show _ = _
  kernel_rfl
theorem meets41 : Meets Try.prog 41 g41 :=
  meets_of (C := c41 FUEL) (ann := an41) (mkC_ok (gs := []) (is := []) (mt := mtL) tysOK elemOK trivial trivial mtOK FUEL) mixed Try.func41 (by kernel_rfl) (by kernel_rfl) (by kernel_rfl) (of_decide_eq_true (by kernel_rfl)) (fun p => p.1.1) (fun _ _ => ⟨rfl, rfl⟩) ev41
def c48 (N : Nat) : Cx := mkC tyL [(17, g17)] [] mtL N
def g48 : Sig := ⟨(.cons (.pure .str) .nl), (.cons (.pure (.int .u8)) (.cons (.pure .bool) .nl)), (Int × Bool), fun x => m_script_keyed x.1, fun _ y => (y.1, (y.2, ())), fun _ y => ((), ())⟩
def an48 : Nat → Ann := mkA []
theorem ev48 : ∀ x : g48.ps.den, evalFn (c48 FUEL) an48 Try.f48 (codeOf Try.f48) g48 x (fun p => (p.1.1, p.1.2.1)) = g48.m x := by
  intro x
  obtain ⟨x0, xu⟩ := x
  show _ = _
  kernel_rfl
theorem meets48 : Meets Try.prog 48 g48 :=
  meets_of (C := c48 FUEL) (ann := an48) (mkC_ok (gs := [(17, g17)]) (is := []) (mt := mtL) tysOK elemOK ⟨meets17, trivial⟩ trivial mtOK FUEL) mixed Try.func48 (by kernel_rfl) (by kernel_rfl) (by kernel_rfl) (of_decide_eq_true (by kernel_rfl)) (fun p => (p.1.1, p.1.2.1)) (fun _ _ => ⟨rfl, rfl⟩) ev48
def c49 (N : Nat) : Cx := mkC tyL [(19, g19)] [] mtL N
def g49 : Sig := ⟨(.cons (.pure .str) .nl), (.cons (.pure (.int .u8)) (.cons (.pure .bool) .nl)), (Int × Bool), fun x => m_script_valued x.1, fun _ y => (y.1, (y.2, ())), fun _ y => ((), ())⟩
def an49 : Nat → Ann := mkA [(2, ⟨[0, 5], [], [], false⟩)]
noncomputable def k49 (N : Nat) : Ex → St → Option (Int × Bool) := finK (c49 N) Try.f49 g49 (.cons .top .nl) (fun p => (p.1.1, p.1.2.1))
def a49 : Nat → Ann := annP [] an49
def h49_0 (u0_0 : ByteArray) (u0_1 : Int) : St := ⟨16, [(0, (.str u0_0)), (5, (.int .i64 u0_1))], []⟩
theorem t49_0 : ∀ (N : Nat) (n : Nat) (u0_0 : ByteArray) (u0_1 : Int), loopAt (c49 N) a49 [1, 0, 1, 0] [] (codeOf Try.f49) (k49 N) n (h49_0 u0_0 u0_1) = m_script_valued_l0 N n u0_0 u0_1 := by
  intro N n
  induction n with
  | zero => intro u0_0 u0_1; kernel_rfl
  | succ n ih =>
    intro u0_0 u0_1
    have e : loopAt (c49 N) a49 [1, 0, 1, 0] [] (codeOf Try.f49) (k49 N) (n + 1) (h49_0 u0_0 u0_1) = m_script_valued_l0_b (fun w0 w1 => loopAt (c49 N) a49 [1, 0, 1, 0] [] (codeOf Try.f49) (k49 N) n (h49_0 w0 w1)) u0_0 u0_1 := by kernel_rfl
    refine e.trans ?_
    have es : (fun w0 w1 => loopAt (c49 N) a49 [1, 0, 1, 0] [] (codeOf Try.f49) (k49 N) n (h49_0 w0 w1)) = m_script_valued_l0 N n := by
      funext w0 w1; exact ih w0 w1
    rw [es]
    rw [m_script_valued_l0]
theorem ew49 : ∀ (N : Nat) (x : g49.ps.den), evalFn (c49 N) an49 Try.f49 (codeOf Try.f49) g49 x (fun p => (p.1.1, p.1.2.1)) = m_script_valued_a (m_script_valued_l0 N N) x.1 := by
  intro N
  intro x
  obtain ⟨x0, xu⟩ := x
  have e : evalFn (c49 N) an49 Try.f49 (codeOf Try.f49) g49 (x0, xu) (fun p => (p.1.1, p.1.2.1)) = m_script_valued_a (fun w0 w1 => loopAt (c49 N) a49 [1, 0, 1, 0] [] (codeOf Try.f49) (k49 N) N (h49_0 w0 w1)) x0 := by kernel_rfl
  refine e.trans ?_
  have e0 : (fun w0 w1 => loopAt (c49 N) a49 [1, 0, 1, 0] [] (codeOf Try.f49) (k49 N) N (h49_0 w0 w1)) = m_script_valued_l0 N N := by
    funext w0 w1; exact t49_0 N N w0 w1
  rw [e0]
theorem ev49 : ∀ x : g49.ps.den, evalFn (c49 FUEL) an49 Try.f49 (codeOf Try.f49) g49 x (fun p => (p.1.1, p.1.2.1)) = g49.m x := fun x => ew49 FUEL x
theorem meets49 : Meets Try.prog 49 g49 :=
  meets_of (C := c49 FUEL) (ann := an49) (mkC_ok (gs := [(19, g19)]) (is := []) (mt := mtL) tysOK elemOK ⟨meets19, trivial⟩ trivial mtOK FUEL) mixed Try.func49 (by kernel_rfl) (by kernel_rfl) (by kernel_rfl) (of_decide_eq_true (by kernel_rfl)) (fun p => (p.1.1, p.1.2.1)) (fun _ _ => ⟨rfl, rfl⟩) ev49
def c42 (N : Nat) : Cx := mkC tyL [(41, g41), (48, g48), (49, g49)] [] mtL N
noncomputable def i42 : List AV → Nat → Pg AV := inlPg (c42 0) Try.f42 (codeOf Try.f42)
theorem inl42 : Inlines Try.prog 42 i42 := inlines (C := c42 0) (mkC_ok (gs := [(41, g41), (48, g48), (49, g49)]) (is := []) (mt := mtL) tysOK elemOK ⟨meets41, meets48, meets49, trivial⟩ trivial mtOK 0) mixed Try.func42 (by kernel_rfl) (by kernel_rfl)
noncomputable def c31 (N : Nat) : Cx := mkC tyL [(40, g40), (41, g41)] [(42, i42)] mtL N
def g31 : Sig := ⟨(.cons (.pure (.pair (.int .i64) (.pair (.int .i64) (.pair (.int .i64) (.pair (.int .i64) (.pair .str (.pair .str (.pair .str (.pair (.int .i64) .nl))))))))) .nl), (.cons (.own (.int .u8)) (.cons (.pure .bool) .nl)), ((List Int) × Bool), fun x => m_script_bytes x.1, fun _ y => (y.1, (y.2, ())), fun _ y => ((), ())⟩
def an31 : Nat → Ann := mkA []
theorem ev31 : ∀ x : g31.ps.den, evalFn (c31 FUEL) an31 Try.f31 (codeOf Try.f31) g31 x (fun p => (p.1.1, p.1.2.1)) = g31.m x := by
  intro x
  obtain ⟨x0, xu⟩ := x
  show _ = _
  kernel_rfl
theorem meets31 : Meets Try.prog 31 g31 :=
  meets_of (C := c31 FUEL) (ann := an31) (mkC_ok (gs := [(40, g40), (41, g41)]) (is := [(42, i42)]) (mt := mtL) tysOK elemOK ⟨meets40, meets41, trivial⟩ ⟨inl42, trivial⟩ mtOK FUEL) mixed Try.func31 (by kernel_rfl) (by kernel_rfl) (by kernel_rfl) (of_decide_eq_true (by kernel_rfl)) (fun p => (p.1.1, p.1.2.1)) (fun _ _ => ⟨rfl, rfl⟩) ev31
def c15 (N : Nat) : Cx := mkC tyL [(31, g31)] [] mtL N
def g15 : Sig := ⟨(.cons (.pure (.pair (.int .i64) (.pair (.int .i64) (.pair (.int .i64) (.pair (.int .i64) (.pair .str (.pair .str (.pair .str (.pair (.int .i64) .nl))))))))) .nl), (.cons (.pure .bool) .nl), Bool, fun x => m_script_Valid x.1, fun _ y => (y, ()), fun _ y => ((), ())⟩
def an15 : Nat → Ann := mkA []
theorem ev15 : ∀ x : g15.ps.den, evalFn (c15 FUEL) an15 Try.f15 (codeOf Try.f15) g15 x (fun p => p.1.1) = g15.m x := by
  intro x
  obtain ⟨x0, xu⟩ := x
  show _ = _
  kernel_rfl
theorem meets15 : Meets Try.prog 15 g15 :=
  meets_of (C := c15 FUEL) (ann := an15) (mkC_ok (gs := [(31, g31)]) (is := []) (mt := mtL) tysOK elemOK ⟨meets31, trivial⟩ trivial mtOK FUEL) mixed Try.func15 (by kernel_rfl) (by kernel_rfl) (by kernel_rfl) (of_decide_eq_true (by kernel_rfl)) (fun p => p.1.1) (fun _ _ => ⟨rfl, rfl⟩) ev15
def c23 (N : Nat) : Cx := mkC tyL [(31, g31)] [] mtL N
def g23 : Sig := ⟨(.cons (.pure (.sl (.pair (.int .i64) (.pair (.int .i64) (.pair (.int .i64) (.pair (.int .i64) (.pair .str (.pair .str (.pair .str (.pair (.int .i64) .nl)))))))))) .nl), (.cons (.own (.int .u8)) (.cons (.pure (.int .i64)) .nl)), ((List Int) × Int), fun x => m_script_Write x.1, fun _ y => (y.1, (y.2, ())), fun _ y => ((), ())⟩
def an23 : Nat → Ann := mkA [(3, ⟨[9, 10, 11], [(4, (.int .u8))], [], false⟩)]
noncomputable def k23 (N : Nat) : Ex → St → Option ((List Int) × Int) := finK (c23 N) Try.f23 g23 (.cons .top .nl) (fun p => (p.1.1, p.1.2.1))
def a23 : Nat → Ann := annP [] an23
def h23_0 (u0_0 : (List (Int × (Int × (Int × (Int × (ByteArray × (ByteArray × (ByteArray × (Int × Unit)))))))))) (u0_1 : Int) (u0_2 : Int) (u0_3 : (List Int)) : St := ⟨30, [(4, .full 300004), (9, (.lst (.pair (.int .i64) (.pair (.int .i64) (.pair (.int .i64) (.pair (.int .i64) (.pair .str (.pair .str (.pair .str (.pair (.int .i64) .nl)))))))) u0_0)), (10, (.int .i64 u0_1)), (11, (.int .i64 u0_2))], [(300004, (.bk (.int .u8) u0_3))]⟩
theorem t23_0 : ∀ (N : Nat) (n : Nat) (u0_0 : (List (Int × (Int × (Int × (Int × (ByteArray × (ByteArray × (ByteArray × (Int × Unit)))))))))) (u0_1 : Int) (u0_2 : Int) (u0_3 : (List Int)), loopAt (c23 N) a23 [1, 1, 0, 1, 0] [] (codeOf Try.f23) (k23 N) n (h23_0 u0_0 u0_1 u0_2 u0_3) = m_script_Write_l0 N n u0_0 u0_1 u0_2 u0_3 := by
  intro N n
  induction n with
  | zero => intro u0_0 u0_1 u0_2 u0_3; kernel_rfl
  | succ n ih =>
    intro u0_0 u0_1 u0_2 u0_3
    have e : loopAt (c23 N) a23 [1, 1, 0, 1, 0] [] (codeOf Try.f23) (k23 N) (n + 1) (h23_0 u0_0 u0_1 u0_2 u0_3) = m_script_Write_l0_b (fun w0 w1 w2 w3 => loopAt (c23 N) a23 [1, 1, 0, 1, 0] [] (codeOf Try.f23) (k23 N) n (h23_0 w0 w1 w2 w3)) u0_0 u0_1 u0_2 u0_3 := by kernel_rfl
    refine e.trans ?_
    have es : (fun w0 w1 w2 w3 => loopAt (c23 N) a23 [1, 1, 0, 1, 0] [] (codeOf Try.f23) (k23 N) n (h23_0 w0 w1 w2 w3)) = m_script_Write_l0 N n := by
      funext w0 w1 w2 w3; exact ih w0 w1 w2 w3
    rw [es]
    rw [m_script_Write_l0]
theorem ew23 : ∀ (N : Nat) (x : g23.ps.den), evalFn (c23 N) an23 Try.f23 (codeOf Try.f23) g23 x (fun p => (p.1.1, p.1.2.1)) = m_script_Write_a (m_script_Write_l0 N N) x.1 := by
  intro N
  intro x
  obtain ⟨x0, xu⟩ := x
  have e : evalFn (c23 N) an23 Try.f23 (codeOf Try.f23) g23 (x0, xu) (fun p => (p.1.1, p.1.2.1)) = m_script_Write_a (fun w0 w1 w2 w3 => loopAt (c23 N) a23 [1, 1, 0, 1, 0] [] (codeOf Try.f23) (k23 N) N (h23_0 w0 w1 w2 w3)) x0 := by kernel_rfl
  refine e.trans ?_
  have e0 : (fun w0 w1 w2 w3 => loopAt (c23 N) a23 [1, 1, 0, 1, 0] [] (codeOf Try.f23) (k23 N) N (h23_0 w0 w1 w2 w3)) = m_script_Write_l0 N N := by
    funext w0 w1 w2 w3; exact t23_0 N N w0 w1 w2 w3
  rw [e0]
theorem ev23 : ∀ x : g23.ps.den, evalFn (c23 FUEL) an23 Try.f23 (codeOf Try.f23) g23 x (fun p => (p.1.1, p.1.2.1)) = g23.m x := fun x => ew23 FUEL x
theorem meets23 : Meets Try.prog 23 g23 :=
  meets_of (C := c23 FUEL) (ann := an23) (mkC_ok (gs := [(31, g31)]) (is := []) (mt := mtL) tysOK elemOK ⟨meets31, trivial⟩ trivial mtOK FUEL) mixed Try.func23 (by kernel_rfl) (by kernel_rfl) (by kernel_rfl) (of_decide_eq_true (by kernel_rfl)) (fun p => (p.1.1, p.1.2.1)) (fun _ _ => ⟨rfl, rfl⟩) ev23
def c16 (N : Nat) : Cx := mkC tyL [(23, g23)] [] mtL N
def g16 : Sig := ⟨(.cons (.pure (.sl (.pair (.int .i64) (.pair (.int .i64) (.pair (.int .i64) (.pair (.int .i64) (.pair .str (.pair .str (.pair .str (.pair (.int .i64) .nl)))))))))) (.cons (.pure (.sl (.int .u8))) (.cons (.pure (.int .i64)) .nl))), (.cons (.pure .bool) .nl), Bool, fun x => m_ticketlinelaw04_writes x.1 x.2.1 x.2.2.1, fun _ y => (y, ()), fun _ y => ((), ((), ((), ())))⟩
def an16 : Nat → Ann := mkA []
theorem ev16 : ∀ x : g16.ps.den, evalFn (c16 FUEL) an16 Try.f16 (codeOf Try.f16) g16 x (fun p => p.1.1) = g16.m x := by
  intro x
  obtain ⟨x0, x1, x2, xu⟩ := x
  show _ = _
  kernel_rfl
theorem meets16 : Meets Try.prog 16 g16 :=
  meets_of (C := c16 FUEL) (ann := an16) (mkC_ok (gs := [(23, g23)]) (is := []) (mt := mtL) tysOK elemOK ⟨meets23, trivial⟩ trivial mtOK FUEL) mixed Try.func16 (by kernel_rfl) (by kernel_rfl) (by kernel_rfl) (of_decide_eq_true (by kernel_rfl)) (fun p => p.1.1) (fun _ _ => ⟨rfl, rfl⟩) ev16
def c8 (N : Nat) : Cx := mkC tyL [(9, g9), (10, g10), (15, g15), (16, g16), (17, g17), (19, g19), (24, g24)] [] mtL N
def g8 : Sig := ⟨.nl, (.cons (.pure .bool) .nl), Bool, fun x => m_ticketlinelaw04_known, fun _ y => (y, ()), fun _ y => ()⟩
def an8 : Nat → Ann := mkA []
theorem ev8 : ∀ x : g8.ps.den, evalFn (c8 FUEL) an8 Try.f8 (codeOf Try.f8) g8 x (fun p => p.1.1) = g8.m x := by
  intro x
  show _ = _
  kernel_rfl
theorem meets8 : Meets Try.prog 8 g8 :=
  meets_of (C := c8 FUEL) (ann := an8) (mkC_ok (gs := [(9, g9), (10, g10), (15, g15), (16, g16), (17, g17), (19, g19), (24, g24)]) (is := []) (mt := mtL) tysOK elemOK ⟨meets9, meets10, meets15, meets16, meets17, meets19, meets24, trivial⟩ trivial mtOK FUEL) mixed Try.func8 (by kernel_rfl) (by kernel_rfl) (by kernel_rfl) (of_decide_eq_true (by kernel_rfl)) (fun p => p.1.1) (fun _ _ => ⟨rfl, rfl⟩) ev8
def g18 : Sig := ⟨(.cons (.pure (.int .i64)) .nl), (.cons (.pure .str) .nl), ByteArray, fun x => m_ticketlineref04_Key x.1, fun _ y => (y, ()), fun _ y => ((), ())⟩
def g20 : Sig := ⟨(.cons (.pure (.int .i64)) .nl), (.cons (.pure .str) .nl), ByteArray, fun x => m_ticketlineref04_Value x.1, fun _ y => (y, ()), fun _ y => ((), ())⟩
def an20 : Nat → Ann := mkA [(3, ⟨[0, 4], [(3, (.int .u8))], [], false⟩)]
def a20 : Nat → Ann := annP [] an20
def g12 : Sig := ⟨(.cons (.pure (.sl (.int .u8))) (.cons (.pure (.int .i64)) .nl)), (.cons (.pure (.pair (.int .i64) (.pair (.int .i64) (.pair (.int .i64) (.pair (.int .i64) (.pair .str (.pair .str (.pair .str (.pair (.int .i64) .nl))))))))) (.cons (.pure (.int .i64)) .nl)), ((Int × (Int × (Int × (Int × (ByteArray × (ByteArray × (ByteArray × (Int × Unit)))))))) × Int), fun x => m_ticketlineref04_Next x.1 x.2.1, fun _ y => (y.1, (y.2, ())), fun _ y => ((), ((), ()))⟩
def g11 : Sig := ⟨(.cons (.pure (.sl (.int .u8))) (.cons (.pure (.int .i64)) .nl)), (.cons (.own (.pair (.int .i64) (.pair (.int .i64) (.pair (.int .i64) (.pair (.int .i64) (.pair .str (.pair .str (.pair .str (.pair (.int .i64) .nl))))))))) .nl), (List (Int × (Int × (Int × (Int × (ByteArray × (ByteArray × (ByteArray × (Int × Unit))))))))), fun x => m_ticketlineref04_Parse x.1 x.2.1, fun _ y => (y, ()), fun _ y => ((), ((), ()))⟩
def c3 (N : Nat) : Cx := mkC tyL [(8, g8), (9, g9), (10, g10), (11, g11), (12, g12)] [] mtL N
def g3 : Sig := ⟨(.cons (.pure (.sl (.int .u8))) (.cons (.pure (.int .i64)) .nl)), (.cons (.pure .bool) .nl), Bool, fun x => m_ticketlinelaw04_ScriptParses x.1 x.2.1, fun _ y => (y, ()), fun _ y => ((), ((), ()))⟩
def g13 : Sig := ⟨(.cons (.pure (.sl (.pair (.int .i64) (.pair (.int .i64) (.pair (.int .i64) (.pair (.int .i64) (.pair .str (.pair .str (.pair .str (.pair (.int .i64) .nl)))))))))) (.cons (.pure (.int .i64)) .nl)), (.cons (.pure .bool) .nl), Bool, fun x => m_ticketlinelaw04_few x.1 x.2.1, fun _ y => (y, ()), fun _ y => ((), ((), ()))⟩
def g14 : Sig := ⟨(.cons (.pure (.pair (.int .i64) (.pair (.int .i64) (.pair (.int .i64) (.pair (.int .i64) (.pair .str (.pair .str (.pair .str (.pair (.int .i64) .nl))))))))) .nl), (.cons (.own (.int .u8)) (.cons (.pure .bool) .nl)), ((List Int) × Bool), fun x => m_ticketlineref04_Bytes x.1, fun _ y => (y.1, (y.2, ())), fun _ y => ((), ())⟩
def c4 (N : Nat) : Cx := mkC tyL [(8, g8), (13, g13), (14, g14), (15, g15), (16, g16)] [] mtL N
def g4 : Sig := ⟨(.cons (.pure (.sl (.pair (.int .i64) (.pair (.int .i64) (.pair (.int .i64) (.pair (.int .i64) (.pair .str (.pair .str (.pair .str (.pair (.int .i64) .nl)))))))))) .nl), (.cons (.pure .bool) .nl), Bool, fun x => m_ticketlinelaw04_ScriptWrites x.1, fun _ y => (y, ()), fun _ y => ((), ())⟩
def an4 : Nat → Ann := mkA [(6, ⟨[0, 4, 13, 14, 15], [(3, (.int .u8))], [], false⟩)]
noncomputable def k4 (N : Nat) : Ex → St → Option Bool := finK (c4 N) Try.f4 g4 (.cons .top .nl) (fun p => p.1.1)
def a4 : Nat → Ann := annP [] an4
def c5 (N : Nat) : Cx := mkC tyL [(8, g8), (17, g17), (18, g18), (19, g19), (20, g20)] [] mtL N
def g5 : Sig := ⟨(.cons (.pure (.int .u8)) .nl), (.cons (.pure .bool) .nl), Bool, fun x => m_ticketlinelaw04_ScriptKeys x.1, fun _ y => (y, ()), fun _ y => ((), ())⟩
def c6 (N : Nat) : Cx := mkC tyL [(8, g8), (9, g9), (11, g11), (16, g16)] [] mtL N
def g6 : Sig := ⟨(.cons (.pure (.int .i64)) (.cons (.pure (.int .u8)) (.cons (.pure (.int .i64)) .nl))), (.cons (.pure .bool) .nl), Bool, fun x => m_ticketlinelaw04_ScriptLongs x.1 x.2.1 x.2.2.1, fun _ y => (y, ()), fun _ y => ((), ((), ((), ())))⟩
def an6 : Nat → Ann := mkA [(1000003, ⟨[0, 1, 2], [], [], true⟩), (5, ⟨[0, 1, 2, 7, 30, 31], [], [28], false⟩), (17, ⟨[2, 9, 52, 53], [(10, (.int .u8))], [50], false⟩)]
def a6 : Nat → Ann := annP [] an6
def c7 (N : Nat) : Cx := mkC tyL [(8, g8), (9, g9), (15, g15), (17, g17), (19, g19), (21, g21), (22, g22), (23, g23)] [] mtL N
def g7 : Sig := ⟨(.cons (.pure (.sl (.int .u8))) (.cons (.pure (.int .i64)) (.cons (.pure (.int .i64)) (.cons (.pure (.int .u8)) (.cons (.pure (.int .u8)) .nl))))), (.cons (.pure .bool) .nl), Bool, fun x => m_ticketlinelaw04_ScriptHolds x.1 x.2.1 x.2.2.1 x.2.2.2.1 x.2.2.2.2.1, fun _ y => (y, ()), fun _ y => ((), ((), ((), ((), ((), ())))))⟩
def an7 : Nat → Ann := mkA [(11, ⟨[0, 1, 2, 12, 14, 71, 72, 73], [], [202112], false⟩)]
noncomputable def k7 (N : Nat) : Ex → St → Option Bool := finK (c7 N) Try.f7 g7 (.cons .top (.cons .top (.cons .top (.cons .top (.cons .top .nl))))) (fun p => p.1.1)
def a7 : Nat → Ann := annP [] an7
def h7_0 (u0_0 : (List Int)) (u0_1 : Int) (u0_2 : Int) (u0_3 : Int) (u0_4 : Int) (u0_5 : Int) (u0_6 : (List (Int × (Int × (Int × (Int × (ByteArray × (ByteArray × (ByteArray × (Int × Unit)))))))))) : St := ⟨167, [(0, (.lst (.int .u8) u0_0)), (1, (.int .i64 u0_1)), (2, (.int .i64 u0_2)), (12, (.full 202112)), (14, (.int .i64 u0_3)), (71, (.full 202112)), (72, (.int .i64 u0_4)), (73, (.int .i64 u0_5))], [(202112, (.bk (.pair (.int .i64) (.pair (.int .i64) (.pair (.int .i64) (.pair (.int .i64) (.pair .str (.pair .str (.pair .str (.pair (.int .i64) .nl)))))))) u0_6))]⟩
theorem t7_0 : ∀ (N : Nat) (n : Nat) (u0_0 : (List Int)) (u0_1 : Int) (u0_2 : Int) (u0_3 : Int) (u0_4 : Int) (u0_5 : Int) (u0_6 : (List (Int × (Int × (Int × (Int × (ByteArray × (ByteArray × (ByteArray × (Int × Unit)))))))))), loopAt (c7 N) a7 [1, 1, 1, 1, 1, 1, 0, 1, 0] [] (codeOf Try.f7) (k7 N) n (h7_0 u0_0 u0_1 u0_2 u0_3 u0_4 u0_5 u0_6) = m_ticketlinelaw04_ScriptHolds_l0 N n u0_0 u0_1 u0_2 u0_3 u0_4 u0_5 u0_6 := by
  intro N n
  induction n with
  | zero => intro u0_0 u0_1 u0_2 u0_3 u0_4 u0_5 u0_6; kernel_rfl
  | succ n ih =>
    intro u0_0 u0_1 u0_2 u0_3 u0_4 u0_5 u0_6
    have e : loopAt (c7 N) a7 [1, 1, 1, 1, 1, 1, 0, 1, 0] [] (codeOf Try.f7) (k7 N) (n + 1) (h7_0 u0_0 u0_1 u0_2 u0_3 u0_4 u0_5 u0_6) = m_ticketlinelaw04_ScriptHolds_l0_b (fun w0 w1 w2 w3 w4 w5 w6 => loopAt (c7 N) a7 [1, 1, 1, 1, 1, 1, 0, 1, 0] [] (codeOf Try.f7) (k7 N) n (h7_0 w0 w1 w2 w3 w4 w5 w6)) u0_0 u0_1 u0_2 u0_3 u0_4 u0_5 u0_6 := by kernel_rfl
    refine e.trans ?_
    have es : (fun w0 w1 w2 w3 w4 w5 w6 => loopAt (c7 N) a7 [1, 1, 1, 1, 1, 1, 0, 1, 0] [] (codeOf Try.f7) (k7 N) n (h7_0 w0 w1 w2 w3 w4 w5 w6)) = m_ticketlinelaw04_ScriptHolds_l0 N n := by
      funext w0 w1 w2 w3 w4 w5 w6; exact ih w0 w1 w2 w3 w4 w5 w6
    rw [es]
    rw [m_ticketlinelaw04_ScriptHolds_l0]
theorem ew7 : ∀ (N : Nat) (x : g7.ps.den), evalFn (c7 N) an7 Try.f7 (codeOf Try.f7) g7 x (fun p => p.1.1) = m_ticketlinelaw04_ScriptHolds_a (m_ticketlinelaw04_ScriptHolds_l0 N N) x.1 x.2.1 x.2.2.1 x.2.2.2.1 x.2.2.2.2.1 := by
  intro N
  intro x
  obtain ⟨x0, x1, x2, x3, x4, xu⟩ := x
  have e : evalFn (c7 N) an7 Try.f7 (codeOf Try.f7) g7 (x0, x1, x2, x3, x4, xu) (fun p => p.1.1) = m_ticketlinelaw04_ScriptHolds_a (fun w0 w1 w2 w3 w4 w5 w6 => loopAt (c7 N) a7 [1, 1, 1, 1, 1, 1, 0, 1, 0] [] (codeOf Try.f7) (k7 N) N (h7_0 w0 w1 w2 w3 w4 w5 w6)) x0 x1 x2 x3 x4 := by kernel_rfl
  refine e.trans ?_
  have e0 : (fun w0 w1 w2 w3 w4 w5 w6 => loopAt (c7 N) a7 [1, 1, 1, 1, 1, 1, 0, 1, 0] [] (codeOf Try.f7) (k7 N) N (h7_0 w0 w1 w2 w3 w4 w5 w6)) = m_ticketlinelaw04_ScriptHolds_l0 N N := by
    funext w0 w1 w2 w3 w4 w5 w6; exact t7_0 N N w0 w1 w2 w3 w4 w5 w6
  rw [e0]
theorem ev7 : ∀ x : g7.ps.den, evalFn (c7 FUEL) an7 Try.f7 (codeOf Try.f7) g7 x (fun p => p.1.1) = g7.m x := fun x => ew7 FUEL x
theorem meets7 : Meets Try.prog 7 g7 :=
  meets_of (C := c7 FUEL) (ann := an7) (mkC_ok (gs := [(8, g8), (9, g9), (15, g15), (17, g17), (19, g19), (21, g21), (22, g22), (23, g23)]) (is := []) (mt := mtL) tysOK elemOK ⟨meets8, meets9, meets15, meets17, meets19, meets21, meets22, meets23, trivial⟩ trivial mtOK FUEL) mixed Try.func7 (by kernel_rfl) (by kernel_rfl) (by kernel_rfl) (of_decide_eq_true (by kernel_rfl)) (fun p => p.1.1) (fun _ _ => ⟨rfl, rfl⟩) ev7
end Go.Proofs.Ytefbnamginihkaa
