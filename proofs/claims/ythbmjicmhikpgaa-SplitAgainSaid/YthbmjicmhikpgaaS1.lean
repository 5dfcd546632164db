/- Searching in a page: what the program and the reference compute. -/
import Derived.Test.YthbmjicmhikpgaaPgB
import Derived.Test.YthbmjicmhikpgaaM15
set_option linter.unusedVariables false
set_option linter.unusedSimpArgs false
set_option maxRecDepth 10000
namespace Go.Ev.L
open Go Go.Ev Go.Ev.M

/-- do the keys strictly increase? -/
def srt : List Pr → Bool
  | [] => true
  | x :: r => match r with
    | [] => true
    | y :: _ => strLt x.1 y.1 && srt r
theorem srt_cons2 (x y : Pr) (r : List Pr) : srt (x :: y :: r) = (strLt x.1 y.1 && srt (y :: r)) := rfl
theorem srt_one (x : Pr) : srt [x] = true := rfl
theorem srt_tail {x : Pr} {r : List Pr} (h : srt (x :: r) = true) : srt r = true := by
  cases r with
  | nil => rfl
  | cons y r => rw [srt_cons2, Bool.and_eq_true] at h; exact h.2
theorem srt_head : ∀ {r : List Pr} {x : Pr}, srt (x :: r) = true → ∀ y, y ∈ r → strLt x.1 y.1 = true := by
  intro r
  induction r with
  | nil => intro x _ y hy; simp at hy
  | cons z r ih =>
    intro x h y hy
    rw [srt_cons2, Bool.and_eq_true] at h
    rcases List.mem_cons.1 hy with rfl | hy
    · exact h.1
    · exact strLt_trans h.1 (ih h.2 y hy)
theorem srt_lt : ∀ {l : List Pr}, srt l = true → ∀ (j k : Nat) (hj : j < k) (hk : k < l.length), strLt (l[j]'(by omega)).1 (l[k]).1 = true := by
  intro l
  induction l with
  | nil => intro _ j k hj hk; simp at hk
  | cons x l ih =>
    intro h j k hj hk
    cases k with
    | zero => omega
    | succ k =>
      cases j with
      | zero => exact srt_head h _ (List.getElem_mem _)
      | succ j => exact ih (srt_tail h) j k (by omega) (by simpa using hk)

theorem cmp_ge {a b : ByteArray} : cmpI a b ≥ 0 ↔ strLt a b = false := by
  unfold cmpI
  cases h : strLt a b with
  | true => simp
  | false => simp only [Bool.false_eq_true, if_false, iff_true]; split <;> omega
theorem le_not_lt {a b : ByteArray} : (strLt a b || strEq a b) = !strLt b a := by
  rcases strLt_tri a b with h | h | h
  · rw [h, strLt_asymm h]; rfl
  · subst h; rw [strLt_irrefl, strEq_refl]; rfl
  · rw [h, strLt_asymm h, strEq_false (fun e => by subst e; rw [strLt_irrefl] at h; cases h)]; rfl

theorem sorted_l0 (l : List Pr) (hl : l.length ≤ 1000) : ∀ (m n N i : Nat), i + 1 + m = l.length → m < n →
    m_search_sorted_l0 N n ((i + 1 : Nat) : Int) l = some (if srt (l.drop i) = true then (l, (0 : Int)) else ([], 13)) := by
  intro m
  induction m with
  | zero =>
    intro n N i hm hn
    obtain ⟨n, rfl⟩ : ∃ q, n = q + 1 := ⟨n - 1, by omega⟩
    have hd : l.drop i = [l[i]'(by omega)] := by rw [List.drop_eq_getElem_cons (by omega), List.drop_eq_nil_of_le (by omega)]
    rw [hd, srt_one]
    simp only [m_search_sorted_l0, m_search_sorted_l0_b, show ¬ ((i + 1 : Nat) : Int) < (l.length : Int) by omega, decide_false, Bool.false_eq_true, if_false, if_true]
  | succ m ih =>
    intro n N i hm hn
    obtain ⟨n, rfl⟩ : ∃ q, n = q + 1 := ⟨n - 1, by omega⟩
    have IH := ih n N (i + 1) (by omega) (by omega)
    have hi : i < l.length := by omega
    have hi1 : i + 1 < l.length := by omega
    have hd : l.drop i = l[i] :: l[i + 1] :: l.drop (i + 2) := by rw [List.drop_eq_getElem_cons hi, List.drop_eq_getElem_cons hi1]
    have hd1 : l.drop (i + 1) = l[i + 1] :: l.drop (i + 2) := List.drop_eq_getElem_cons hi1
    have w1 : IntKind.i64.wrap (((i + 1 : Nat) : Int) - 1) = (i : Int) := by rw [wI (by omega) (by omega)]; omega
    have w2 : IntKind.i64.wrap (((i + 1 : Nat) : Int) + 1) = ((i + 1 + 1 : Nat) : Int) := by rw [wI (by omega) (by omega)]; omega
    have hk := keys_Compare (l[i]).1 (l[i + 1]).1
    rw [hd, srt_cons2, ← hd1]
    simp only [m_search_sorted_l0, m_search_sorted_l0_b, show ((i + 1 : Nat) : Int) < (l.length : Int) by omega, decide_true, if_true, w1, w2, Int.natCast_nonneg, show (i : Int) < (l.length : Int) by omega, rd_GP, GP_get hi, GP_get hi1, hk, Option.bind_some, IH]
    cases h : strLt (l[i]).1 (l[i + 1]).1 with
    | true =>
      have : ¬ cmpI (l[i]).1 (l[i + 1]).1 ≥ 0 := fun h' => by rw [cmp_ge, h] at h'; cases h'
      simp only [this, decide_false, Bool.false_eq_true, if_false, Bool.true_and]
    | false =>
      have : cmpI (l[i]).1 (l[i + 1]).1 ≥ 0 := cmp_ge.2 h
      simp only [this, decide_true, if_true, Bool.false_and, Bool.false_eq_true, if_false]
theorem sorted_all (l : List Pr) (hl : l.length ≤ 1000) (n N : Nat) (hn : 1000 < n) : m_search_sorted_l0 N n 1 l = some (if srt l = true then (l, (0 : Int)) else ([], 13)) := by
  cases l with
  | nil =>
    obtain ⟨n, rfl⟩ : ∃ q, n = q + 1 := ⟨n - 1, by omega⟩
    simp [m_search_sorted_l0, m_search_sorted_l0_b, srt]
  | cons x r =>
    simp only [List.length_cons] at hl
    exact sorted_l0 (x :: r) (by simpa using hl) r.length n N 0 (by simp; omega) (by omega)
theorem bad_l0 (l : List Pr) (hl : l.length ≤ 1000) : ∀ (m n N i : Nat), i + 1 + m = l.length → m < n →
    m_ticketlineref15_Bad_l0 N n ((i + 1 : Nat) : Int) l = some (if srt (l.drop i) = true then (0 : Int) else 13) := by
  intro m
  induction m with
  | zero =>
    intro n N i hm hn
    obtain ⟨n, rfl⟩ : ∃ q, n = q + 1 := ⟨n - 1, by omega⟩
    have hd : l.drop i = [l[i]'(by omega)] := by rw [List.drop_eq_getElem_cons (by omega), List.drop_eq_nil_of_le (by omega)]
    rw [hd, srt_one]
    simp only [m_ticketlineref15_Bad_l0, m_ticketlineref15_Bad_l0_b, show ¬ ((i + 1 : Nat) : Int) < (l.length : Int) by omega, decide_false, Bool.false_eq_true, if_false, if_true]
  | succ m ih =>
    intro n N i hm hn
    obtain ⟨n, rfl⟩ : ∃ q, n = q + 1 := ⟨n - 1, by omega⟩
    have IH := ih n N (i + 1) (by omega) (by omega)
    have hi : i < l.length := by omega
    have hi1 : i + 1 < l.length := by omega
    have hd : l.drop i = l[i] :: l[i + 1] :: l.drop (i + 2) := by rw [List.drop_eq_getElem_cons hi, List.drop_eq_getElem_cons hi1]
    have hd1 : l.drop (i + 1) = l[i + 1] :: l.drop (i + 2) := List.drop_eq_getElem_cons hi1
    have w1 : IntKind.i64.wrap (((i + 1 : Nat) : Int) - 1) = (i : Int) := by rw [wI (by omega) (by omega)]; omega
    have w2 : IntKind.i64.wrap (((i + 1 : Nat) : Int) + 1) = ((i + 1 + 1 : Nat) : Int) := by rw [wI (by omega) (by omega)]; omega
    rw [hd, srt_cons2, ← hd1]
    simp only [m_ticketlineref15_Bad_l0, m_ticketlineref15_Bad_l0_b, show ((i + 1 : Nat) : Int) < (l.length : Int) by omega, decide_true, if_true, w1, w2, Int.natCast_nonneg, show (i : Int) < (l.length : Int) by omega, rd_GP, GP_get hi, GP_get hi1, le_not_lt, IH]
    cases h : strLt (l[i]).1 (l[i + 1]).1 <;> simp
theorem bad_all (l : List Pr) (hl : l.length ≤ 1000) (n N : Nat) (hn : 1000 < n) : m_ticketlineref15_Bad_l0 N n 1 l = some (if srt l = true then (0 : Int) else 13) := by
  cases l with
  | nil =>
    obtain ⟨n, rfl⟩ : ∃ q, n = q + 1 := ⟨n - 1, by omega⟩
    simp [m_ticketlineref15_Bad_l0, m_ticketlineref15_Bad_l0_b, srt]
  | cons x r =>
    simp only [List.length_cons] at hl
    exact bad_l0 (x :: r) (by simpa using hl) r.length n N 0 (by simp; omega) (by omega)

/-- is it a page whose keys increase? -/
def srtB (p : List Int) : Bool := validB p && srt (pairsS p)
def badS (p : List Int) : Int := if validB p = true then (if srt (pairsS p) = true then 0 else 13) else 12
theorem pairsS_len {p : List Int} (hp : PageOK p) (hv : validB p = true) : (pairsS p).length ≤ 1000 ∧ ((pairsS p).length : Int) = count p := by
  have h1 := count_le hp hv
  have hl : (pairsS p).length = count p := pairsTo_length p (count p)
  omega
theorem search_sorted {p : List Int} (hp : PageOK p) : m_search_sorted p = some (if srtB p = true then (pairsS p, (0 : Int)) else ([], badS p)) := by
  unfold m_search_sorted m_search_sorted_a
  rw [slot_Pairs hp]
  unfold srtB badS
  cases hv : validB p with
  | false => simp
  | true =>
    have h := sorted_all (pairsS p) (pairsS_len hp hv).1 FUEL FUEL (by have := FUEL_big; omega)
    simp only [if_true, Option.bind_some, bne_self_eq_false, Bool.false_eq_true, if_false, h, Bool.true_and]
    cases srt (pairsS p) <;> rfl
theorem ref15_Bad {p : List Int} (hp : PageOK p) : m_ticketlineref15_Bad p = some (badS p) := by
  unfold m_ticketlineref15_Bad m_ticketlineref15_Bad_a badS
  rw [ref_Valid hp]
  cases hv : validB p with
  | false => simp
  | true =>
    have h := bad_all (pairsS p) (pairsS_len hp hv).1 FUEL FUEL (by have := FUEL_big; omega)
    simp only [Option.bind_some, Bool.not_true, Bool.false_eq_true, if_false, if_true, ref_Pairs hp hv, h]
theorem badS_zero {p : List Int} : (badS p == 0) = srtB p := by
  unfold badS srtB
  cases validB p <;> cases srt (pairsS p) <;> rfl
theorem srtB_spec {p : List Int} (h : srtB p = true) : validB p = true ∧ srt (pairsS p) = true := by
  simpa [srtB, Bool.and_eq_true] using h
theorem search_Sorted {p : List Int} (hp : PageOK p) : m_search_Sorted p = some (srtB p) := by
  unfold m_search_Sorted
  rw [search_sorted hp]
  have := badS_zero (p := p)
  cases h : srtB p with
  | true => rfl
  | false => rw [h] at this; simp [this]

end Go.Ev.L
