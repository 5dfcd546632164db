/- Kinds of plans. -/
import Derived.Test.YtfdgkmligadcnaaB8
import Derived.Test.YtfdgkmligadcnaaEv29
set_option linter.unusedVariables false
namespace Go.Ev.L
open Go Go.Ev Go.Ev.M
abbrev plnTy : Ty := .pair (.int .i64) (.pair (.int .i64) (.pair .str (.pair .str (.pair (.sl (.pair .str (.pair .str .nl))) (.pair (.sl (.int .u8)) (.pair (.sl (.pair (.int .u8) (.pair (.int .u64) .nl))) .nl))))))
theorem plnOK {x : Pln} (h : plnTy.wf x) : PlnOK x := by
  obtain ⟨h1, h2, h3, h4, h5, h6, h7, _⟩ := h
  exact ⟨fun y hy => u8_range (h6.2 y hy), fun y hy => by
    have h8 := h7.2 y hy
    have a := u8_range h8.1
    have b := u64_range h8.2.1
    exact ⟨a.1, a.2, b.1, b.2⟩, (i64_range h2).2⟩
end Go.Ev.L
