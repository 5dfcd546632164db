/- Arenas: any calls, one after the other, give what the reference's give. -/
import Derived.Test.YtbmdoalneeeonaaA7
import Derived.Test.YtbmdoalneeeonaaPgB
set_option linter.unusedVariables false
set_option linter.unusedSimpArgs false
namespace Go.Ev.L
open Go Go.Ev Go.Ev.M

abbrev Act := Int × (Int × (Pln × Unit))
theorem fmtW_AI {w : List Int} {n : Int} (h0 : 1 ≤ n) (h1 : n ≤ 511) (h2 : 16 + 128 * n ≤ w.length) (h3 : w.length ≤ 65536) (hu : U64 w) : ∃ fl, AI (fmtW w n) n fl [] := by
  have hs := fmtW_sz h0 h1 h2 h3 hu
  have hg := fun j hj => G_fmtW (w := w) (n := n) h0 h2 (j := j) hj
  have hk : ∀ p, 1 ≤ p → p ≤ n → K (fmtW w n) p = 0 := fun p a b => by
    unfold K
    rw [hg _ (by unfold pl; omega), if_neg (by unfold pl; omega), if_neg (by unfold pl; omega), if_neg (by unfold pl; omega), if_neg (by unfold pl; omega), if_pos (by unfold pl; omega)]
  have hl : ∀ p, 1 ≤ p → p ≤ n → G (fmtW w n) (pl p 10) = if p < n then p + 1 else 0 := fun p a b => by
    rw [hg _ (by unfold pl; omega)]
    by_cases e : p < n
    · rw [if_pos (by unfold pl; omega), if_pos e]; unfold pl; omega
    · rw [if_neg (by unfold pl; omega), if_neg (by unfold pl; omega), if_neg (by unfold pl; omega), if_neg (by unfold pl; omega), if_pos (by unfold pl; omega), if_neg e]
  have g1 : G (fmtW w n) 1 = 1 := by rw [hg 1 (by omega), if_neg (by omega), if_neg (by omega), if_pos rfl]
  have g2 : G (fmtW w n) 2 = 0 := by rw [hg 2 (by omega), if_neg (by omega), if_neg (by omega), if_neg (by omega), if_neg (by omega), if_pos (by omega)]
  have g3 : G (fmtW w n) 3 = 0 := by rw [hg 3 (by omega), if_neg (by omega), if_neg (by omega), if_neg (by omega), if_neg (by omega), if_pos (by omega)]
  have g4 : G (fmtW w n) 4 = 1 := by rw [hg 4 (by omega), if_neg (by omega), if_pos rfl]
  -- the pages from p on
  have ch : ∀ (m : Nat) (p pos : Int), 1 ≤ p → p + m = n → G (fmtW w n) pos = p → ∃ l, Ch (fmtW w n) n 0 pos l ∧ l.Nodup ∧ ∀ x, x ∈ l ↔ p ≤ x ∧ x ≤ n := by
    intro m
    induction m with
    | zero =>
      intro p pos a b c
      refine ⟨[p], ⟨c, a, by omega, hk p a (by omega), ?_⟩, by simp, fun x => by simp; omega⟩
      show G _ _ = 0
      rw [hl p a (by omega), if_neg (by omega)]
    | succ m ih =>
      intro p pos a b c
      obtain ⟨l, l1, l2, l3⟩ := ih (p + 1) (pl p 10) (by omega) (by omega) (by rw [hl p a (by omega), if_pos (by omega)])
      refine ⟨p :: l, ⟨c, a, by omega, hk p a (by omega), l1⟩, List.nodup_cons.2 ⟨fun h => by have := (l3 p).1 h; omega, l2⟩, fun x => ?_⟩
      rw [List.mem_cons, l3 x]
      omega
  obtain ⟨fl, f1, f2, f3⟩ := ch (n - 1).toNat 1 1 (by omega) (by omega) g1
  refine ⟨fl, hs, f1, g2, f2, by simp, fun p a b _ => (f3 p).2 ⟨a, b⟩, fun p a b c => ?_, fun p a b => .inl (hk p a b), trivial, by omega, by omega, .inl g3⟩
  rw [hk p a b] at c
  omega
abbrev actTy : Ty := .pair (.int .i64) (.pair (.int .i64) (.pair plnTy .nl))
theorem rd_act {l : List Act} {i : Int} (h0 : 0 ≤ i) (h1 : i < l.length) : rd actTy l i ∈ l := by
  unfold rd
  rw [List.getD_eq_getElem?_getD, List.getElem?_eq_getElem (by omega)]
  exact List.getElem_mem ..
end Go.Ev.L
