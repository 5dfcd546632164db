/- Law 14: plain answers. -/
import Derived.Test.YtfdgkmligadcnaaL0
import Derived.Test.YtfdgkmligadcnaaM14
import Derived.KernelRfl
set_option linter.unusedVariables false
set_option linter.unusedSimpArgs false
namespace Go.Ev.L
open Go Go.Ev Go.Ev.M

theorem known14 : m_ticketlinelaw14_known = some true := by kernel_rfl

/-- how many words some bytes have -/
def W (n : Int) : Int := if n ≤ 0 then 0 else (n + 7) / 8
theorem keys_Words {n : Int} (h : n < 9223372036854775808) : m_keys_Words n = some (W n) := by
  unfold m_keys_Words W
  by_cases h0 : n ≤ 0
  · simp [h0]
  · simp only [h0, decide_false, Bool.false_eq_true, if_false]
    rw [wI (x := n - 1) (by omega) (by omega), td8 (by omega), wI (x := (n - 1) / 8) (by omega) (by omega), wI (by omega) (by omega)]
    congr 1; omega
theorem ref14_Words {n : Int} (h0 : 0 ≤ n) (h : n < 9223372036854775800) : m_ticketlineref14_Words n = some (W n) := by
  unfold m_ticketlineref14_Words W
  rw [wI (x := n + 7) (by omega) (by omega), td8 (by omega), wI (by omega) (by omega)]
  split
  · congr 1; omega
  · rfl
theorem slotCosts_true (a b : ByteArray) : m_ticketlinelaw14_SlotCosts a b = some true := by
  unfold m_ticketlinelaw14_SlotCosts
  by_cases h1 : (a.size : Int) > 300
  · simp [h1, known14]
  by_cases h2 : (b.size : Int) > 300
  · simp [h1, h2, known14]
  simp only [h1, h2, decide_false, Bool.false_eq_true, if_false]
  unfold m_slot_Cost m_ticketlineref14_Cost
  dsimp only
  rw [keys_Words (by omega), keys_Words (by omega), ref14_Words (by omega) (by omega), ref14_Words (by omega) (by omega)]
  simp [known14]
end Go.Ev.L
