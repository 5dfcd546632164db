/- Law 19: links; the stage's theorem. -/
import Derived.Test.YthbmjicmhikpgaaF1
import Derived.Test.YthbmjicmhikpgaaPgB
set_option linter.unusedVariables false
set_option linter.unusedSimpArgs false
set_option maxRecDepth 10000
namespace Go.Ev.L
open Go Go.Ev Go.Ev.M

theorem list_ext_G {p q : List Int} (h : p.length = q.length) (hg : ∀ i : Nat, i < p.length → G p i = G q i) : p = q := by
  refine List.ext_getElem h fun i h1 h2 => ?_
  have := hg i h1
  rwa [G_get h1, G_get h2] at this

/-- a page with another right link and another high fence -/
def linkS (p : List Int) (next : Int) (high : ByteArray) : List Int :=
  (((((p.set 10 next).set 16 high.size).set 17 (G (packS high) 0)).set 18 (G (packS high) 1)).set 19 (G (packS high) 2))
theorem linkS_page {p : List Int} (hp : PageOK p) {next : Int} (h0 : 0 ≤ next) (h1 : next ≤ 511) {high : ByteArray} (hh : high.size ≤ 24) : PageOK (linkS p next high) := by
  have hu := packS_u64 high
  exact ((((hp.set 10 (by omega) (by omega)).set 16 (by omega) (by omega)).set 17 (hu.G 0).1 (hu.G 0).2).set 18 (hu.G 1).1 (hu.G 1).2).set 19 (hu.G 2).1 (hu.G 2).2
theorem G_linkS {p : List Int} (hp : p.length = 128) (next : Int) (high : ByteArray) (j : Int) (h0 : 0 ≤ j) : G (linkS p next high) j = if j = 10 then next else if j = 16 then (high.size : Int) else if 17 ≤ j ∧ j < 20 then G (packS high) (j - 17) else G p j := by
  unfold linkS
  rw [G_set (by simp; omega) j h0, G_set (by simp; omega) j h0, G_set (by simp; omega) j h0, G_set (by simp; omega) j h0, G_set (by omega) j h0]
  by_cases c0 : j = 10
  · subst c0; rfl
  · by_cases c1 : j = 16
    · subst c1; rfl
    · by_cases c2 : j = 17
      · subst c2; rfl
      · by_cases c3 : j = 18
        · subst c3; rfl
        · by_cases c4 : j = 19
          · subst c4; rfl
          · rw [if_neg (by omega), if_neg (by omega), if_neg (by omega), if_neg (by omega), if_neg (by omega), if_neg c0, if_neg c1, if_neg (by omega)]

theorem G_win {l : List Int} {a n : Int} (h0 : 0 ≤ a) (j : Int) (h1 : 0 ≤ j) (h2 : j < n) : G (win l a n) j = G l (a + j) := by
  unfold G win
  simp only [List.getD_eq_getElem?_getD, List.getElem?_take, List.getElem?_drop]
  rw [if_pos (by omega), show a.toNat + j.toNat = (a + j).toNat by omega]
theorem G_out {l : List Int} {j : Int} (h : (l.length : Int) ≤ j) : G l j = 0 := by
  unfold G
  rw [List.getD_eq_getElem?_getD, List.getElem?_eq_none (by omega)]; rfl
theorem G_append {l m : List Int} (j : Int) (h0 : 0 ≤ j) : G (l ++ m) j = if j < l.length then G l j else G m (j - l.length) := by
  unfold G
  simp only [List.getD_eq_getElem?_getD]
  by_cases c : j < l.length
  · rw [if_pos c, List.getElem?_append_left (by omega)]
  · rw [if_neg c, List.getElem?_append_right (by omega), show j.toNat - l.length = (j - l.length).toNat by omega]
theorem G_emptyHigh {level : Int} {low high : ByteArray} (hl : low.size ≤ 24) (hh : high.size ≤ 24) (j : Int) (h0 : 16 ≤ j) (h1 : j < 20) : G (emptyS level low high) j = if j = 16 then (high.size : Int) else G (packS high) (j - 17) := by
  have p1 := packS_len3 hl
  have p2 := packS_len3 hh
  unfold emptyS
  rw [G_splice (by omega) (by rw [splice_length _ _ (by omega) (by simp; omega)]; simp; omega) j (by omega), G_splice (by omega) (by simp; omega) j (by omega)]
  by_cases c1 : j = 16
  · rw [if_neg (by omega), if_neg (by omega), G_set (by simp) j (by omega), if_pos (by omega), if_pos c1]
  · rw [if_neg c1]
    by_cases c2 : 17 ≤ j ∧ j < 17 + ((packS high).length : Int)
    · rw [if_pos c2]
    · rw [if_neg c2, if_neg (by omega), G_set (by simp) j (by omega), if_neg (by omega), G_set (by simp) j (by omega), if_neg (by omega), G_set (by simp) j (by omega), if_neg (by omega), G_set (by simp) j (by omega), if_neg (by omega), G_out (l := packS high) (by omega)]
      unfold G
      rw [List.getD_eq_getElem?_getD, List.getElem?_replicate]; split <;> rfl

theorem fence_Link {p : List Int} (hp : PageOK p) (next : Int) (high : ByteArray) : m_fence_Link p next high = some (if validB p = true then (if next < 0 ∨ 511 < next then (List.replicate 128 0, (3 : Int)) else if 24 < high.size then (List.replicate 128 0, 5)
    else if high ≠ eB ∧ strLt (lowS p) high = false then (List.replicate 128 0, 13) else (linkS p next high, 0)) else (List.replicate 128 0, 12)) := by
  unfold m_fence_Link
  rw [slot_Fences hp, slot_Level hp]
  cases hv : validB p with
  | false => simp
  | true =>
    have hh := head_spec (valid_head hv)
    obtain ⟨z1, z2⟩ := lowS_size hp
    simp only [if_true, Option.bind_some, bne_self_eq_false, Bool.false_eq_true, if_false, slot_Make]
    by_cases c1 : next < 0
    · simp [c1]
    by_cases c2 : next > 511
    · simp [c1, c2]
    have R : (if G p 8 - 1 < 0 ∨ 6 ≤ G p 8 - 1 then (List.replicate 128 0, (2 : Int)) else if 24 < (lowS p).size ∨ 24 < high.size then (List.replicate 128 0, 5) else if high ≠ eB ∧ strLt (lowS p) high = false then (List.replicate 128 0, 13) else (emptyS (G p 8 - 1) (lowS p) high, 0)) =
        if 24 < high.size then (List.replicate 128 0, (5 : Int)) else if high ≠ eB ∧ strLt (lowS p) high = false then (List.replicate 128 0, 13) else (emptyS (G p 8 - 1) (lowS p) high, 0) := by
      rw [if_neg (by omega)]
      by_cases c : 24 < high.size
      · rw [if_pos (.inr c), if_pos c]
      · rw [if_neg (by omega), if_neg c]
    have w1 : IntKind.u64.wrap next = next := wU (by omega) (by omega)
    rw [R]
    simp only [c1, c2, decide_false, Bool.false_eq_true, if_false, w1, show ¬ 511 < next by omega, or_self]
    by_cases c3 : 24 < high.size
    · simp [c3]
    by_cases c4 : high ≠ eB ∧ strLt (lowS p) high = false
    · simp only [c3, c4, if_false, and_self, ne_eq, not_false_eq_true, if_true]; simp
    · simp only [c3, c4, if_false, bne_self_eq_false, Bool.false_eq_true]
      have hE := empty_page (level := G p 8 - 1) (low := lowS p) (high := high) (by omega) (by omega) z1 (by omega)
      have hwl : (win (emptyS (G p 8 - 1) (lowS p) high) 16 4).length = 4 := win_len (by omega) (by omega) (by rw [hE.1]; omega)
      rw [List.take_of_length_le (by omega)]
      congr 2
      refine list_ext_G (by rw [splice_length _ _ (by omega) (by simp [hwl, hp.1])]; simp [linkS]) fun i hi => ?_
      rw [splice_length _ _ (by omega) (by simp [hwl, hp.1])] at hi
      have hi : i < 128 := by simpa [hp.1] using hi
      rw [G_splice (by omega) (by simp [hwl, hp.1]) _ (by omega), G_linkS hp.1 _ _ _ (by omega), hwl, G_set (by rw [hp.1]; omega) _ (by omega)]
      by_cases d : (16 : Int) ≤ i ∧ (i : Int) < 16 + ((4 : Nat) : Int)
      · rw [if_pos d, G_win (by omega) _ (by omega) (by omega), G_emptyHigh z1 (by omega) _ (by omega) (by omega), show 16 + ((i : Int) - 16) = i by omega, if_neg (show ¬ (i : Int) = 10 by omega)]
        by_cases d2 : (i : Int) = 16
        · rw [if_pos d2, if_pos d2]
        · rw [if_neg d2, if_neg d2, if_pos (by omega)]
      · rw [if_neg d]
        by_cases d2 : (i : Int) = 10
        · rw [if_pos (by omega), if_pos d2]
        · rw [if_neg (by omega), if_neg d2, if_neg (by omega), if_neg (by omega)]

theorem links19 {p : List Int} {next e : Int} {high : ByteArray} {q : List Int} (h : m_fence_Link p next high = some (q, e)) : m_ticketlinelaw19_links p next high q e = some true := by
  unfold m_ticketlinelaw19_links; rw [h]; simp [beq_refl_page]
theorem ref19_Link {p : List Int} (hp : PageOK p) (hv : validB p = true) (next : Int) (high : ByteArray) : m_ticketlineref19_Link p next high = m_fence_Link p next high := by
  rw [fence_Link hp, hv, if_pos rfl]
  unfold m_ticketlineref19_Link m_ticketlineref19_Link_a
  rw [ref_Fences hp]
  dsimp only
  simp only [Option.bind_some]
  by_cases c1 : next < 0
  · simp [c1]
  by_cases c2 : next > 511
  · simp [c1, c2]
  by_cases c3 : (high.size : Int) > 24
  · simp [c1, c2, c3, show 24 < high.size by omega]
  have w1 : IntKind.u64.wrap next = next := wU (by omega) (by omega)
  have w2 : IntKind.u64.wrap (high.size : Int) = high.size := wU (by omega) (by omega)
  have p2 := packS_len3 (s := high) (by omega)
  have hf : fits ((packS high).length + [(0 : Int), 0, 0].length) 8 := by unfold fits; simp; omega
  have gz : ∀ j : Int, 0 ≤ j → j < 3 → G (packS high ++ [0, 0, 0]) j = G (packS high) j := by
    intro j h0 h3
    rw [G_append j h0]
    by_cases c : j < (packS high).length
    · rw [if_pos c]
    · rw [if_neg c, G_out (l := packS high) (by omega)]
      unfold G
      rw [List.getD_eq_getElem?_getD]
      rcases (by omega : (j - (packS high).length).toNat = 0 ∨ (j - (packS high).length).toNat = 1 ∨ (j - (packS high).length).toNat = 2) with h | h | h <;> rw [h] <;> rfl
  have loop : ∀ z : List Int, m_ticketlineref19_Link_l0 FUEL FUEL 0 ((p.set 10 next).set 16 high.size) z (packS high ++ [0, 0, 0]) = some (linkS p next high, 0) := by
    intro z
    have hl : ((packS high ++ [(0 : Int), 0, 0]).length : Int) = (packS high).length + 3 := by simp
    have step : ∀ (n : Nat) (i : Int) (q : List Int), 0 ≤ i → i < 3 → m_ticketlineref19_Link_l0 FUEL (n + 1) i q z (packS high ++ [0, 0, 0]) = m_ticketlineref19_Link_l0 FUEL n (i + 1) (q.set (17 + i).toNat (G (packS high) i)) z (packS high ++ [0, 0, 0]) := by
      intro n i q h0 h3
      have a1 : IntKind.i64.wrap (17 + i) = 17 + i := wI (by omega) (by omega)
      have a2 : IntKind.i64.wrap (i + 1) = i + 1 := wI (by omega) (by omega)
      simp only [m_ticketlineref19_Link_l0, m_ticketlineref19_Link_l0_b, h3, decide_true, if_true, h0, hl, show i < ((packS high).length : Int) + 3 by omega, a1, a2, show (0 : Int) ≤ 17 + i by omega, show 17 + i < 128 by omega, rd_G, gz i h0 h3]
    obtain ⟨n, hn⟩ : ∃ n, FUEL = n + 4 := ⟨FUEL - 4, by have := FUEL_big; omega⟩
    have e0 := step (n + 3) 0 ((p.set 10 next).set 16 high.size) (by omega) (by omega)
    have e1 := step (n + 2) 1 (((p.set 10 next).set 16 high.size).set 17 (G (packS high) 0)) (by omega) (by omega)
    have e2 := step (n + 1) 2 ((((p.set 10 next).set 16 high.size).set 17 (G (packS high) 0)).set 18 (G (packS high) 1)) (by omega) (by omega)
    have e3 : m_ticketlineref19_Link_l0 FUEL (n + 1) 3 (linkS p next high) z (packS high ++ [0, 0, 0]) = some (linkS p next high, 0) := rfl
    have hx : m_ticketlineref19_Link_l0 FUEL FUEL 0 ((p.set 10 next).set 16 high.size) z (packS high ++ [0, 0, 0]) = m_ticketlineref19_Link_l0 FUEL (n + 4) 0 ((p.set 10 next).set 16 high.size) z (packS high ++ [0, 0, 0]) := by rw [← hn]
    exact hx.trans (e0.trans (e1.trans (e2.trans e3)))
  simp only [c1, c2, c3, decide_false, Bool.false_eq_true, if_false, show ¬ 511 < next by omega, or_self, show ¬ 24 < high.size by omega, w1, w2, ref_Pack (show high.size ≤ 100000 by omega), Option.bind_some, hf, if_true, loop, le_not_lt]
  by_cases c5 : high = eB
  · subst c5
    simp only [strEq_refl, Bool.not_true, Bool.false_eq_true, if_false, ne_eq, not_true, false_and]
  · have e5 : strEq high eB = false := strEq_false c5
    simp only [e5, Bool.not_false, if_true, c5, ne_eq, not_false_eq_true, true_and]
    cases strLt (lowS p) high <;> simp

theorem fenceLinks_true {x : Pln} (h : PlnOK x) (next : Int) (high : ByteArray) : m_ticketlinelaw19_FenceLinks x next high = some true := by
  obtain ⟨p, b, h1, h2, h3⟩ := plan_page h
  unfold m_ticketlinelaw19_FenceLinks
  rw [h1]
  simp only [Option.bind_some, known19]
  cases b with
  | false => rfl
  | true =>
    by_cases c : (high.size : Int) > 60
    · simp [c]
    simp only [Bool.not_true, Bool.false_eq_true, if_false, c, decide_false, ref_Valid h2, Option.bind_some]
    cases hv : validB p with
    | false =>
      have hL := fence_Link h2 next high
      rw [hv] at hL
      have := links19 (q := List.replicate 128 0) (e := 12) hL
      simp only [Bool.not_false, if_true, this, Option.bind_some]
    | true =>
      have hR := ref19_Link h2 hv next high
      obtain ⟨r, hr⟩ : ∃ r, m_fence_Link p next high = some r := ⟨_, fence_Link h2 next high⟩
      rw [hr] at hR
      have := links19 (q := r.1) (e := r.2) hr
      simp [hR, this]
end Go.Ev.L
