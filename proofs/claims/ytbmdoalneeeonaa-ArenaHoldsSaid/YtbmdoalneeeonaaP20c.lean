/- A part of the proof of a statement of this seat: the functions keep their promises. No condition. -/
import Derived.Test.YtbmdoalneeeonaaP20b
set_option linter.unusedVariables false
set_option maxRecDepth 100000
namespace Go.Proofs.Ytbmdoalneeeonaa
open Go Go.Ev Go.Ev.M Go.Proofs
def c10 (N : Nat) : Cx := mkC tyL [(9, g9), (11, g11), (12, g12), (15, g15), (18, g18), (20, g20), (22, g22), (23, g23), (24, g24), (25, g25), (36, g36), (37, g37), (38, g38), (39, g39), (40, g40)] [] mtL N
def g10 : Sig := ⟨.nl, (.cons (.pure .bool) .nl), Bool, fun x => m_ticketlinelaw20_known, fun _ y => (y, ()), fun _ y => ()⟩
def an10 : Nat → Ann := mkA []
theorem ev10 : ∀ x : g10.ps.den, evalFn (c10 FUEL) an10 Try.f10 (codeOf Try.f10) g10 x (fun p => p.1.1) = g10.m x := by
  intro x
  show _ = _
  kernel_rfl
theorem meets10 : Meets Try.prog 10 g10 :=
  meets_of (C := c10 FUEL) (ann := an10) (mkC_ok (gs := [(9, g9), (11, g11), (12, g12), (15, g15), (18, g18), (20, g20), (22, g22), (23, g23), (24, g24), (25, g25), (36, g36), (37, g37), (38, g38), (39, g39), (40, g40)]) (is := []) (mt := mtL) tysOK elemOK ⟨meets9, meets11, meets12, meets15, meets18, meets20, meets22, meets23, meets24, meets25, meets36, meets37, meets38, meets39, meets40, trivial⟩ trivial mtOK FUEL) mixed Try.func10 (by kernel_rfl) (by kernel_rfl) (by kernel_rfl) (of_decide_eq_true (by kernel_rfl)) (fun p => p.1.1) (fun _ _ => ⟨rfl, rfl⟩) ev10
def c3 (N : Nat) : Cx := mkC tyL [(9, g9), (10, g10)] [] mtL N
def g3 : Sig := ⟨(.cons (.pure (.int .i64)) (.cons (.pure (.int .i64)) .nl)), (.cons (.pure .bool) .nl), Bool, fun x => m_ticketlinelaw20_ArenaWords x.1 x.2.1, fun _ y => (y, ()), fun _ y => ((), ((), ()))⟩
noncomputable def c21 (N : Nat) : Cx := mkC tyL [(44, g44)] [(48, i48)] mtL N
def g21 : Sig := ⟨(.cons (.ptr (.cons (.cons (.ptr (.cons (.own (.int .u64)) .nl)) .nl) .nl)) .nl), (.cons (.nptr (.cons (.own (.int .u64)) .nl)) .nl), ((Option ((List Int) × Unit)) × ((((List Int) × Unit) × Unit) × Unit)), fun x => m_arena_Arena_Mem x.1, fun _ y => (y.1, ()), fun _ y => (y.2, ())⟩
def an21 : Nat → Ann := mkA []
theorem ev21 : ∀ x : g21.ps.den, evalFn (c21 FUEL) an21 Try.f21 (codeOf Try.f21) g21 x (fun p => (p.1.1, p.2.1)) = g21.m x := by
  intro x
  obtain ⟨x0, xu⟩ := x
  show _ = _
  kernel_rfl
theorem meets21 : Meets Try.prog 21 g21 :=
  meets_of (C := c21 FUEL) (ann := an21) (mkC_ok (gs := [(44, g44)]) (is := [(48, i48)]) (mt := mtL) tysOK elemOK ⟨meets44, trivial⟩ ⟨inl48, trivial⟩ mtOK FUEL) mixed Try.func21 (by kernel_rfl) (by kernel_rfl) (by kernel_rfl) (of_decide_eq_true (by kernel_rfl)) (fun p => (p.1.1, p.2.1)) (fun _ _ => ⟨rfl, rfl⟩) ev21
def g26 : Sig := ⟨(.cons (.ptr (.cons (.cons (.ptr (.cons (.own (.int .u64)) .nl)) .nl) .nl)) .nl), (.cons (.own (.int .i64)) .nl), ((List Int) × ((((List Int) × Unit) × Unit) × Unit)), fun x => m_arena_Arena_Used x.1, fun _ y => (y.1, ()), fun _ y => (y.2, ())⟩
def g31 : Sig := ⟨(.cons (.ptr (.cons (.cons (.ptr (.cons (.own (.int .u64)) .nl)) .nl) .nl)) (.cons (.ptr (.cons (.own (.int .u64)) .nl)) .nl)), (.cons (.pure .bool) .nl), (Bool × ((((List Int) × Unit) × Unit) × Unit) × ((List Int) × Unit)), fun x => m_ticketlinelaw20_alike x.1 x.2.1, fun _ y => (y.1, ()), fun _ y => (y.2.1, (y.2.2, ()))⟩
def g33 : Sig := ⟨(.cons (.pure (.sl (.int .u64))) (.cons (.pure (.int .i64)) .nl)), (.cons (.nptr (.cons (.own (.int .u64)) .nl)) .nl), (Option ((List Int) × Unit)), fun x => m_ticketlineref20_Format x.1 x.2.1, fun _ y => (y, ()), fun _ y => ((), ((), ()))⟩
def c7 (N : Nat) : Cx := mkC tyL [(10, g10), (11, g11), (12, g12), (23, g23), (31, g31), (33, g33)] [] mtL N
def g7 : Sig := ⟨(.cons (.pure (.int .i64)) (.cons (.pure (.int .i64)) .nl)), (.cons (.pure .bool) .nl), Bool, fun x => m_ticketlinelaw20_ArenaFormats x.1 x.2.1, fun _ y => (y, ()), fun _ y => ((), ((), ()))⟩
def c5 (N : Nat) : Cx := mkC tyL [(10, g10), (11, g11), (12, g12), (15, g15), (22, g22), (23, g23), (24, g24), (25, g25), (26, g26)] [] mtL N
def g5 : Sig := ⟨(.cons (.pure (.int .i64)) (.cons (.pure (.int .u16)) .nl)), (.cons (.pure .bool) .nl), Bool, fun x => m_ticketlinelaw20_ArenaMany x.1 x.2.1, fun _ y => (y, ()), fun _ y => ((), ((), ()))⟩
noncomputable def k5 (N : Nat) : Ex → St → Option Bool := finK (c5 N) Try.f5 g5 (.cons .top (.cons .top .nl)) (fun p => p.1.1)
def c46 (N : Nat) : Cx := mkC tyL [(79, g79)] [] mtL N
def g46 : Sig := ⟨(.cons (.pure (.pair .str (.pair .str .nl))) .nl), (.cons (.pure (.int .i64)) .nl), Int, fun x => m_ticketlineref14_Cost x.1, fun _ y => (y, ()), fun _ y => ((), ())⟩
def an46 : Nat → Ann := mkA []
theorem ev46 : ∀ x : g46.ps.den, evalFn (c46 FUEL) an46 Try.f46 (codeOf Try.f46) g46 x (fun p => p.1.1) = g46.m x := by
  intro x
  obtain ⟨x0, xu⟩ := x
  show _ = _
  kernel_rfl
theorem meets46 : Meets Try.prog 46 g46 :=
  meets_of (C := c46 FUEL) (ann := an46) (mkC_ok (gs := [(79, g79)]) (is := []) (mt := mtL) tysOK elemOK ⟨meets79, trivial⟩ trivial mtOK FUEL) mixed Try.func46 (by kernel_rfl) (by kernel_rfl) (by kernel_rfl) (of_decide_eq_true (by kernel_rfl)) (fun p => p.1.1) (fun _ _ => ⟨rfl, rfl⟩) ev46
def c47 (N : Nat) : Cx := mkC tyL [(59, g59), (60, g60)] [] mtL N
def g47 : Sig := ⟨(.cons (.pure (.arr 128 (.int .u64))) (.cons (.pure (.pair .str (.pair .str .nl))) .nl)), (.cons (.pure (.arr 128 (.int .u64))) .nl), (List Int), fun x => m_ticketlineref14_Put x.1 x.2.1, fun _ y => (y, ()), fun _ y => ((), ((), ()))⟩
def an47 : Nat → Ann := mkA []
theorem ev47 : ∀ x : g47.ps.den, evalFn (c47 FUEL) an47 Try.f47 (codeOf Try.f47) g47 x (fun p => p.1.1) = g47.m x := by
  intro x
  obtain ⟨x0, x1, xu⟩ := x
  show _ = _
  kernel_rfl
theorem meets47 : Meets Try.prog 47 g47 :=
  meets_of (C := c47 FUEL) (ann := an47) (mkC_ok (gs := [(59, g59), (60, g60)]) (is := []) (mt := mtL) tysOK elemOK ⟨meets59, meets60, trivial⟩ trivial mtOK FUEL) mixed Try.func47 (by kernel_rfl) (by kernel_rfl) (by kernel_rfl) (of_decide_eq_true (by kernel_rfl)) (fun p => p.1.1) (fun _ _ => ⟨rfl, rfl⟩) ev47

end Go.Proofs.Ytbmdoalneeeonaa
