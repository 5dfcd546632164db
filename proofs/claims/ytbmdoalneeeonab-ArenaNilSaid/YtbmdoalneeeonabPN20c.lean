/- A part of the proof of a statement of this seat: the functions keep their promises. No condition. -/
import Derived.Test.YtbmdoalneeeonabPN20b
set_option linter.unusedVariables false
set_option maxRecDepth 100000
namespace Go.Proofs.Ytbmdoalneeeonab
open Go Go.Ev Go.Ev.M Go.Proofs
def c20 (N : Nat) : Cx := mkC tyL [(4, g4), (5, g5), (6, g6), (7, g7), (8, g8), (9, g9), (10, g10), (11, g11), (12, g12), (13, g13), (14, g14), (15, g15), (16, g16), (42, g42), (43, g43)] [] mtL N
def g20 : Sig := ⟨.nl, (.cons (.pure .bool) .nl), Bool, fun x => m_ticketlinelaw20_known, fun _ y => (y, ()), fun _ y => ()⟩
def an20 : Nat → Ann := mkA []
theorem ev20 : ∀ x : g20.ps.den, evalFn (c20 FUEL) an20 Try.f20 (codeOf Try.f20) g20 x (fun p => p.1.1) = g20.m x := by
  intro x
  show _ = _
  kernel_rfl
theorem meets20 : Meets Try.prog 20 g20 :=
  meets_of (C := c20 FUEL) (ann := an20) (mkC_ok (gs := [(4, g4), (5, g5), (6, g6), (7, g7), (8, g8), (9, g9), (10, g10), (11, g11), (12, g12), (13, g13), (14, g14), (15, g15), (16, g16), (42, g42), (43, g43)]) (is := []) (mt := mtL) tysOK elemOK ⟨meets4, meets5, meets6, meets7, meets8, meets9, meets10, meets11, meets12, meets13, meets14, meets15, meets16, meets42, meets43, trivial⟩ trivial mtOK FUEL) mixed Try.func20 (by kernel_rfl) (by kernel_rfl) (by kernel_rfl) (of_decide_eq_true (by kernel_rfl)) (fun p => p.1.1) (fun _ _ => ⟨rfl, rfl⟩) ev20
noncomputable def ci4 (N : Nat) : Cx := mkC tyL [] [(21, i21)] mtL N
noncomputable def i4 : List AV → Nat → Pg AV := inlPg (ci4 0) Try.f4 (codeOf Try.f4)
theorem inl4 : Inlines Try.prog 4 i4 := inlines (C := ci4 0) (mkC_ok (gs := []) (is := [(21, i21)]) (mt := mtL) tysOK elemOK trivial ⟨inl21, trivial⟩ mtOK 0) mixed Try.func4 (by kernel_rfl) (by kernel_rfl)
noncomputable def ci5 (N : Nat) : Cx := mkC tyL [] [(21, i21)] mtL N
noncomputable def i5 : List AV → Nat → Pg AV := inlPg (ci5 0) Try.f5 (codeOf Try.f5)
theorem inl5 : Inlines Try.prog 5 i5 := inlines (C := ci5 0) (mkC_ok (gs := []) (is := [(21, i21)]) (mt := mtL) tysOK elemOK trivial ⟨inl21, trivial⟩ mtOK 0) mixed Try.func5 (by kernel_rfl) (by kernel_rfl)
def ci6 (N : Nat) : Cx := mkC tyL [] [] mtL N
noncomputable def i6 : List AV → Nat → Pg AV := inlPg (ci6 0) Try.f6 (codeOf Try.f6)
theorem inl6 : Inlines Try.prog 6 i6 := inlines (C := ci6 0) (mkC_ok (gs := []) (is := []) (mt := mtL) tysOK elemOK trivial trivial mtOK 0) mixed Try.func6 (by kernel_rfl) (by kernel_rfl)
noncomputable def ci27 (N : Nat) : Cx := mkC tyL [] [(37, i37)] mtL N
noncomputable def i27 : List AV → Nat → Pg AV := inlPg (ci27 0) Try.f27 (codeOf Try.f27)
theorem inl27 : Inlines Try.prog 27 i27 := inlines (C := ci27 0) (mkC_ok (gs := []) (is := [(37, i37)]) (mt := mtL) tysOK elemOK trivial ⟨inl37, trivial⟩ mtOK 0) mixed Try.func27 (by kernel_rfl) (by kernel_rfl)
noncomputable def ci7 (N : Nat) : Cx := mkC tyL [] [(27, i27)] mtL N
noncomputable def i7 : List AV → Nat → Pg AV := inlPg (ci7 0) Try.f7 (codeOf Try.f7)
theorem inl7 : Inlines Try.prog 7 i7 := inlines (C := ci7 0) (mkC_ok (gs := []) (is := [(27, i27)]) (mt := mtL) tysOK elemOK trivial ⟨inl27, trivial⟩ mtOK 0) mixed Try.func7 (by kernel_rfl) (by kernel_rfl)
noncomputable def ci30 (N : Nat) : Cx := mkC tyL [] [(50, i50)] mtL N
noncomputable def i30 : List AV → Nat → Pg AV := inlPg (ci30 0) Try.f30 (codeOf Try.f30)
theorem inl30 : Inlines Try.prog 30 i30 := inlines (C := ci30 0) (mkC_ok (gs := []) (is := [(50, i50)]) (mt := mtL) tysOK elemOK trivial ⟨inl50, trivial⟩ mtOK 0) mixed Try.func30 (by kernel_rfl) (by kernel_rfl)
noncomputable def ci9 (N : Nat) : Cx := mkC tyL [] [(30, i30)] mtL N
noncomputable def i9 : List AV → Nat → Pg AV := inlPg (ci9 0) Try.f9 (codeOf Try.f9)
theorem inl9 : Inlines Try.prog 9 i9 := inlines (C := ci9 0) (mkC_ok (gs := []) (is := [(30, i30)]) (mt := mtL) tysOK elemOK trivial ⟨inl30, trivial⟩ mtOK 0) mixed Try.func9 (by kernel_rfl) (by kernel_rfl)
noncomputable def ci32 (N : Nat) : Cx := mkC tyL [] [(30, i30)] mtL N
noncomputable def i32 : List AV → Nat → Pg AV := inlPg (ci32 0) Try.f32 (codeOf Try.f32)
theorem inl32 : Inlines Try.prog 32 i32 := inlines (C := ci32 0) (mkC_ok (gs := []) (is := [(30, i30)]) (mt := mtL) tysOK elemOK trivial ⟨inl30, trivial⟩ mtOK 0) mixed Try.func32 (by kernel_rfl) (by kernel_rfl)
noncomputable def ci10 (N : Nat) : Cx := mkC tyL [] [(32, i32)] mtL N
noncomputable def i10 : List AV → Nat → Pg AV := inlPg (ci10 0) Try.f10 (codeOf Try.f10)
theorem inl10 : Inlines Try.prog 10 i10 := inlines (C := ci10 0) (mkC_ok (gs := []) (is := [(32, i32)]) (mt := mtL) tysOK elemOK trivial ⟨inl32, trivial⟩ mtOK 0) mixed Try.func10 (by kernel_rfl) (by kernel_rfl)
noncomputable def ci33 (N : Nat) : Cx := mkC tyL [] [(37, i37)] mtL N
noncomputable def i33 : List AV → Nat → Pg AV := inlPg (ci33 0) Try.f33 (codeOf Try.f33)
theorem inl33 : Inlines Try.prog 33 i33 := inlines (C := ci33 0) (mkC_ok (gs := []) (is := [(37, i37)]) (mt := mtL) tysOK elemOK trivial ⟨inl37, trivial⟩ mtOK 0) mixed Try.func33 (by kernel_rfl) (by kernel_rfl)
noncomputable def ci11 (N : Nat) : Cx := mkC tyL [] [(33, i33)] mtL N
noncomputable def i11 : List AV → Nat → Pg AV := inlPg (ci11 0) Try.f11 (codeOf Try.f11)
theorem inl11 : Inlines Try.prog 11 i11 := inlines (C := ci11 0) (mkC_ok (gs := []) (is := [(33, i33)]) (mt := mtL) tysOK elemOK trivial ⟨inl33, trivial⟩ mtOK 0) mixed Try.func11 (by kernel_rfl) (by kernel_rfl)
noncomputable def ci34 (N : Nat) : Cx := mkC tyL [] [(50, i50)] mtL N
noncomputable def i34 : List AV → Nat → Pg AV := inlPg (ci34 0) Try.f34 (codeOf Try.f34)
theorem inl34 : Inlines Try.prog 34 i34 := inlines (C := ci34 0) (mkC_ok (gs := []) (is := [(50, i50)]) (mt := mtL) tysOK elemOK trivial ⟨inl50, trivial⟩ mtOK 0) mixed Try.func34 (by kernel_rfl) (by kernel_rfl)
noncomputable def ci12 (N : Nat) : Cx := mkC tyL [] [(34, i34)] mtL N
noncomputable def i12 : List AV → Nat → Pg AV := inlPg (ci12 0) Try.f12 (codeOf Try.f12)
theorem inl12 : Inlines Try.prog 12 i12 := inlines (C := ci12 0) (mkC_ok (gs := []) (is := [(34, i34)]) (mt := mtL) tysOK elemOK trivial ⟨inl34, trivial⟩ mtOK 0) mixed Try.func12 (by kernel_rfl) (by kernel_rfl)
noncomputable def ci13 (N : Nat) : Cx := mkC tyL [] [(30, i30)] mtL N
noncomputable def i13 : List AV → Nat → Pg AV := inlPg (ci13 0) Try.f13 (codeOf Try.f13)
theorem inl13 : Inlines Try.prog 13 i13 := inlines (C := ci13 0) (mkC_ok (gs := []) (is := [(30, i30)]) (mt := mtL) tysOK elemOK trivial ⟨inl30, trivial⟩ mtOK 0) mixed Try.func13 (by kernel_rfl) (by kernel_rfl)
noncomputable def ci14 (N : Nat) : Cx := mkC tyL [] [(37, i37)] mtL N
noncomputable def i14 : List AV → Nat → Pg AV := inlPg (ci14 0) Try.f14 (codeOf Try.f14)
theorem inl14 : Inlines Try.prog 14 i14 := inlines (C := ci14 0) (mkC_ok (gs := []) (is := [(37, i37)]) (mt := mtL) tysOK elemOK trivial ⟨inl37, trivial⟩ mtOK 0) mixed Try.func14 (by kernel_rfl) (by kernel_rfl)
noncomputable def ci15 (N : Nat) : Cx := mkC tyL [] [(37, i37)] mtL N
noncomputable def i15 : List AV → Nat → Pg AV := inlPg (ci15 0) Try.f15 (codeOf Try.f15)
theorem inl15 : Inlines Try.prog 15 i15 := inlines (C := ci15 0) (mkC_ok (gs := []) (is := [(37, i37)]) (mt := mtL) tysOK elemOK trivial ⟨inl37, trivial⟩ mtOK 0) mixed Try.func15 (by kernel_rfl) (by kernel_rfl)
noncomputable def ci39 (N : Nat) : Cx := mkC tyL [] [(37, i37)] mtL N
noncomputable def i39 : List AV → Nat → Pg AV := inlPg (ci39 0) Try.f39 (codeOf Try.f39)
theorem inl39 : Inlines Try.prog 39 i39 := inlines (C := ci39 0) (mkC_ok (gs := []) (is := [(37, i37)]) (mt := mtL) tysOK elemOK trivial ⟨inl37, trivial⟩ mtOK 0) mixed Try.func39 (by kernel_rfl) (by kernel_rfl)
noncomputable def ci16 (N : Nat) : Cx := mkC tyL [] [(39, i39)] mtL N
noncomputable def i16 : List AV → Nat → Pg AV := inlPg (ci16 0) Try.f16 (codeOf Try.f16)
theorem inl16 : Inlines Try.prog 16 i16 := inlines (C := ci16 0) (mkC_ok (gs := []) (is := [(39, i39)]) (mt := mtL) tysOK elemOK trivial ⟨inl39, trivial⟩ mtOK 0) mixed Try.func16 (by kernel_rfl) (by kernel_rfl)
noncomputable def ci17 (N : Nat) : Cx := mkC tyL [] [(37, i37)] mtL N
noncomputable def i17 : List AV → Nat → Pg AV := inlPg (ci17 0) Try.f17 (codeOf Try.f17)
theorem inl17 : Inlines Try.prog 17 i17 := inlines (C := ci17 0) (mkC_ok (gs := []) (is := [(37, i37)]) (mt := mtL) tysOK elemOK trivial ⟨inl37, trivial⟩ mtOK 0) mixed Try.func17 (by kernel_rfl) (by kernel_rfl)
noncomputable def ci18 (N : Nat) : Cx := mkC tyL [] [(37, i37)] mtL N
noncomputable def i18 : List AV → Nat → Pg AV := inlPg (ci18 0) Try.f18 (codeOf Try.f18)
theorem inl18 : Inlines Try.prog 18 i18 := inlines (C := ci18 0) (mkC_ok (gs := []) (is := [(37, i37)]) (mt := mtL) tysOK elemOK trivial ⟨inl37, trivial⟩ mtOK 0) mixed Try.func18 (by kernel_rfl) (by kernel_rfl)
noncomputable def ci19 (N : Nat) : Cx := mkC tyL [] [(37, i37)] mtL N
noncomputable def i19 : List AV → Nat → Pg AV := inlPg (ci19 0) Try.f19 (codeOf Try.f19)
theorem inl19 : Inlines Try.prog 19 i19 := inlines (C := ci19 0) (mkC_ok (gs := []) (is := [(37, i37)]) (mt := mtL) tysOK elemOK trivial ⟨inl37, trivial⟩ mtOK 0) mixed Try.func19 (by kernel_rfl) (by kernel_rfl)
noncomputable def c3 (N : Nat) : Cx := mkC tyL [(8, g8), (20, g20)] [(4, i4), (5, i5), (6, i6), (7, i7), (9, i9), (10, i10), (11, i11), (12, i12), (13, i13), (14, i14), (15, i15), (16, i16), (17, i17), (18, i18), (19, i19)] mtL N
def g3 : Sig := ⟨(.cons (.pure (.int .i64)) .nl), (.cons (.pure .bool) .nl), Bool, fun x => m_ticketlinelaw20_ArenaNil x.1, fun _ y => (y, ()), fun _ y => ((), ())⟩
def an3 : Nat → Ann := mkA [(2, ⟨[0, 13, 14, 15], [], [13, 12], true, []⟩), (10, ⟨[0, 43, 44, 45], [], [43, 42], true, []⟩)]
theorem ev3 : ∀ x : g3.ps.den, evalFn (c3 FUEL) an3 Try.f3 (codeOf Try.f3) g3 x (fun p => p.1.1) = g3.m x := by
  intro x
  obtain ⟨x0, xu⟩ := x
  show _ = _
  kernel_rfl
theorem meets3 : Meets Try.prog 3 g3 :=
  meets_of (C := c3 FUEL) (ann := an3) (mkC_ok (gs := [(8, g8), (20, g20)]) (is := [(4, i4), (5, i5), (6, i6), (7, i7), (9, i9), (10, i10), (11, i11), (12, i12), (13, i13), (14, i14), (15, i15), (16, i16), (17, i17), (18, i18), (19, i19)]) (mt := mtL) tysOK elemOK ⟨meets8, meets20, trivial⟩ ⟨inl4, inl5, inl6, inl7, inl9, inl10, inl11, inl12, inl13, inl14, inl15, inl16, inl17, inl18, inl19, trivial⟩ mtOK FUEL) mixed Try.func3 (by kernel_rfl) (by kernel_rfl) (by kernel_rfl) (of_decide_eq_true (by kernel_rfl)) (fun p => p.1.1) (fun _ _ => ⟨rfl, rfl⟩) ev3
end Go.Proofs.Ytbmdoalneeeonab
