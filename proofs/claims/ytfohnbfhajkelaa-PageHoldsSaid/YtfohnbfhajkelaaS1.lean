/- Searching in a page: what the program and the reference compute. -/
import Derived.Test.YtfohnbfhajkelaaPgB
import Derived.Test.YtfohnbfhajkelaaM15
set_option linter.unusedVariables false
set_option linter.unusedSimpArgs false
set_option maxRecDepth 10000
namespace Go.Ev.L
open Go Go.Ev Go.Ev.M

/-- do the keys strictly increase? -/
def srt : List Pr → Bool
  | [] => true
  | x :: r => match r with
    | [] => true
    | y :: _ => strLt x.1 y.1 && srt r
theorem srt_cons2 (x y : Pr) (r : List Pr) : srt (x :: y :: r) = (strLt x.1 y.1 && srt (y :: r)) := rfl
theorem srt_one (x : Pr) : srt [x] = true := rfl
theorem srt_tail {x : Pr} {r : List Pr} (h : srt (x :: r) = true) : srt r = true := by
  cases r with
  | nil => rfl
  | cons y r => rw [srt_cons2, Bool.and_eq_true] at h; exact h.2
theorem srt_head : ∀ {r : List Pr} {x : Pr}, srt (x :: r) = true → ∀ y, y ∈ r → strLt x.1 y.1 = true := by
  intro r
  induction r with
  | nil => intro x _ y hy; simp at hy
  | cons z r ih =>
    intro x h y hy
    rw [srt_cons2, Bool.and_eq_true] at h
    rcases List.mem_cons.1 hy with rfl | hy
    · exact h.1
    · exact strLt_trans h.1 (ih h.2 y hy)
theorem srt_lt : ∀ {l : List Pr}, srt l = true → ∀ (j k : Nat) (hj : j < k) (hk : k < l.length), strLt (l[j]'(by omega)).1 (l[k]).1 = true := by
  intro l
  induction l with
  | nil => intro _ j k hj hk; simp at hk
  | cons x l ih =>
    intro h j k hj hk
    cases k with
    | zero => omega
    | succ k =>
      cases j with
      | zero => exact srt_head h _ (List.getElem_mem _)
      | succ j => exact ih (srt_tail h) j k (by omega) (by simpa using hk)

theorem cmp_ge {a b : ByteArray} : cmpI a b ≥ 0 ↔ strLt a b = false := by
  unfold cmpI
  cases h : strLt a b with
  | true => simp
  | false => simp only [Bool.false_eq_true, if_false, iff_true]; split <;> omega
theorem le_not_lt {a b : ByteArray} : (strLt a b || strEq a b) = !strLt b a := by
  rcases strLt_tri a b with h | h | h
  · rw [h, strLt_asymm h]; rfl
  · subst h; rw [strLt_irrefl, strEq_refl]; rfl
  · rw [h, strLt_asymm h, strEq_false (fun e => by subst e; rw [strLt_irrefl] at h; cases h)]; rfl

theorem sorted_l0 (l : List Pr) (hl : l.length ≤ 1000) : ∀ (m n N i : Nat), i + 1 + m = l.length → m < n →
    m_search_sorted_l0 N n ((i + 1 : Nat) : Int) l = some (if srt (l.drop i) = true then (l, (0 : Int)) else ([], 13)) := by
  intro m
  induction m with
  | zero =>
    intro n N i hm hn
    obtain ⟨n, rfl⟩ : ∃ q, n = q + 1 := ⟨n - 1, by omega⟩
    have hd : l.drop i = [l[i]'(by omega)] := by rw [List.drop_eq_getElem_cons (by omega), List.drop_eq_nil_of_le (by omega)]
    rw [hd, srt_one]
    simp only [m_search_sorted_l0, m_search_sorted_l0_b, show ¬ ((i + 1 : Nat) : Int) < (l.length : Int) by omega, decide_false, Bool.false_eq_true, if_false, if_true]
  | succ m ih =>
    intro n N i hm hn
    obtain ⟨n, rfl⟩ : ∃ q, n = q + 1 := ⟨n - 1, by omega⟩
    have IH := ih n N (i + 1) (by omega) (by omega)
    have hi : i < l.length := by omega
    have hi1 : i + 1 < l.length := by omega
    have hd : l.drop i = l[i] :: l[i + 1] :: l.drop (i + 2) := by rw [List.drop_eq_getElem_cons hi, List.drop_eq_getElem_cons hi1]
    have hd1 : l.drop (i + 1) = l[i + 1] :: l.drop (i + 2) := List.drop_eq_getElem_cons hi1
    have w1 : IntKind.i64.wrap (((i + 1 : Nat) : Int) - 1) = (i : Int) := by rw [wI (by omega) (by omega)]; omega
    have w2 : IntKind.i64.wrap (((i + 1 : Nat) : Int) + 1) = ((i + 1 + 1 : Nat) : Int) := by rw [wI (by omega) (by omega)]; omega
    have hk := keys_Compare (l[i]).1 (l[i + 1]).1
    rw [hd, srt_cons2, ← hd1]
    simp only [m_search_sorted_l0, m_search_sorted_l0_b, show ((i + 1 : Nat) : Int) < (l.length : Int) by omega, decide_true, if_true, w1, w2, Int.natCast_nonneg, show (i : Int) < (l.length : Int) by omega, rd_GP, GP_get hi, GP_get hi1, hk, Option.bind_some, IH]
    cases h : strLt (l[i]).1 (l[i + 1]).1 with
    | true =>
      have : ¬ cmpI (l[i]).1 (l[i + 1]).1 ≥ 0 := fun h' => by rw [cmp_ge, h] at h'; cases h'
      simp only [this, decide_false, Bool.false_eq_true, if_false, Bool.true_and]
    | false =>
      have : cmpI (l[i]).1 (l[i + 1]).1 ≥ 0 := cmp_ge.2 h
      simp only [this, decide_true, if_true, Bool.false_and, Bool.false_eq_true, if_false]
theorem sorted_all (l : List Pr) (hl : l.length ≤ 1000) (n N : Nat) (hn : 1000 < n) : m_search_sorted_l0 N n 1 l = some (if srt l = true then (l, (0 : Int)) else ([], 13)) := by
  cases l with
  | nil =>
    obtain ⟨n, rfl⟩ : ∃ q, n = q + 1 := ⟨n - 1, by omega⟩
    simp [m_search_sorted_l0, m_search_sorted_l0_b, srt]
  | cons x r =>
    simp only [List.length_cons] at hl
    exact sorted_l0 (x :: r) (by simpa using hl) r.length n N 0 (by simp; omega) (by omega)
theorem bad_l0 (l : List Pr) (hl : l.length ≤ 1000) : ∀ (m n N i : Nat), i + 1 + m = l.length → m < n →
    m_ticketlineref15_Bad_l0 N n ((i + 1 : Nat) : Int) l = some (if srt (l.drop i) = true then (0 : Int) else 13) := by
  intro m
  induction m with
  | zero =>
    intro n N i hm hn
    obtain ⟨n, rfl⟩ : ∃ q, n = q + 1 := ⟨n - 1, by omega⟩
    have hd : l.drop i = [l[i]'(by omega)] := by rw [List.drop_eq_getElem_cons (by omega), List.drop_eq_nil_of_le (by omega)]
    rw [hd, srt_one]
    simp only [m_ticketlineref15_Bad_l0, m_ticketlineref15_Bad_l0_b, show ¬ ((i + 1 : Nat) : Int) < (l.length : Int) by omega, decide_false, Bool.false_eq_true, if_false, if_true]
  | succ m ih =>
    intro n N i hm hn
    obtain ⟨n, rfl⟩ : ∃ q, n = q + 1 := ⟨n - 1, by omega⟩
    have IH := ih n N (i + 1) (by omega) (by omega)
    have hi : i < l.length := by omega
    have hi1 : i + 1 < l.length := by omega
    have hd : l.drop i = l[i] :: l[i + 1] :: l.drop (i + 2) := by rw [List.drop_eq_getElem_cons hi, List.drop_eq_getElem_cons hi1]
    have hd1 : l.drop (i + 1) = l[i + 1] :: l.drop (i + 2) := List.drop_eq_getElem_cons hi1
    have w1 : IntKind.i64.wrap (((i + 1 : Nat) : Int) - 1) = (i : Int) := by rw [wI (by omega) (by omega)]; omega
    have w2 : IntKind.i64.wrap (((i + 1 : Nat) : Int) + 1) = ((i + 1 + 1 : Nat) : Int) := by rw [wI (by omega) (by omega)]; omega
    rw [hd, srt_cons2, ← hd1]
    simp only [m_ticketlineref15_Bad_l0, m_ticketlineref15_Bad_l0_b, show ((i + 1 : Nat) : Int) < (l.length : Int) by omega, decide_true, if_true, w1, w2, Int.natCast_nonneg, show (i : Int) < (l.length : Int) by omega, rd_GP, GP_get hi, GP_get hi1, le_not_lt, IH]
    cases h : strLt (l[i]).1 (l[i + 1]).1 <;> simp
theorem bad_all (l : List Pr) (hl : l.length ≤ 1000) (n N : Nat) (hn : 1000 < n) : m_ticketlineref15_Bad_l0 N n 1 l = some (if srt l = true then (0 : Int) else 13) := by
  cases l with
  | nil =>
    obtain ⟨n, rfl⟩ : ∃ q, n = q + 1 := ⟨n - 1, by omega⟩
    simp [m_ticketlineref15_Bad_l0, m_ticketlineref15_Bad_l0_b, srt]
  | cons x r =>
    simp only [List.length_cons] at hl
    exact bad_l0 (x :: r) (by simpa using hl) r.length n N 0 (by simp; omega) (by omega)

/-- is it a page whose keys increase? -/
def srtB (p : List Int) : Bool := validB p && srt (pairsS p)
def badS (p : List Int) : Int := if validB p = true then (if srt (pairsS p) = true then 0 else 13) else 12
theorem pairsS_len {p : List Int} (hp : PageOK p) (hv : validB p = true) : (pairsS p).length ≤ 1000 ∧ ((pairsS p).length : Int) = count p := by
  have h1 := count_le hp hv
  have hl : (pairsS p).length = count p := pairsTo_length p (count p)
  omega
theorem search_sorted {p : List Int} (hp : PageOK p) : m_search_sorted p = some (if srtB p = true then (pairsS p, (0 : Int)) else ([], badS p)) := by
  unfold m_search_sorted m_search_sorted_a
  rw [slot_Pairs hp]
  unfold srtB badS
  cases hv : validB p with
  | false => simp
  | true =>
    have h := sorted_all (pairsS p) (pairsS_len hp hv).1 FUEL FUEL (by have := FUEL_big; omega)
    simp only [if_true, Option.bind_some, bne_self_eq_false, Bool.false_eq_true, if_false, h, Bool.true_and]
    cases srt (pairsS p) <;> rfl
theorem ref15_Bad {p : List Int} (hp : PageOK p) : m_ticketlineref15_Bad p = some (badS p) := by
  unfold m_ticketlineref15_Bad m_ticketlineref15_Bad_a badS
  rw [ref_Valid hp]
  cases hv : validB p with
  | false => simp
  | true =>
    have h := bad_all (pairsS p) (pairsS_len hp hv).1 FUEL FUEL (by have := FUEL_big; omega)
    simp only [Option.bind_some, Bool.not_true, Bool.false_eq_true, if_false, if_true, ref_Pairs hp hv, h]
theorem badS_zero {p : List Int} : (badS p == 0) = srtB p := by
  unfold badS srtB
  cases validB p <;> cases srt (pairsS p) <;> rfl
theorem srtB_spec {p : List Int} (h : srtB p = true) : validB p = true ∧ srt (pairsS p) = true := by
  simpa [srtB, Bool.and_eq_true] using h
def posS (key : ByteArray) : List Pr → Nat
  | [] => 0
  | x :: r => if strLt x.1 key = true then posS key r + 1 else 0
def isS (key : ByteArray) (l : List Pr) : Bool := match l[posS key l]? with | some x => strEq x.1 key | none => false
theorem posS_eq {key : ByteArray} : ∀ {l : List Pr} {i : Nat}, i ≤ l.length → (∀ (j : Nat) (h : j < l.length), j < i → strLt (l[j]).1 key = true) → (∀ h : i < l.length, strLt (l[i]).1 key = false) → posS key l = i := by
  intro l
  induction l with
  | nil => intro i h _ _; simp at h; subst h; rfl
  | cons x r ih =>
    intro i h h1 h2
    cases i with
    | zero =>
      have := h2 (by simp)
      simp only [List.getElem_cons_zero] at this
      simp [posS, this]
    | succ i =>
      have h0 := h1 0 (by simp) (by omega)
      simp only [List.getElem_cons_zero] at h0
      simp only [posS, h0, if_true]
      rw [ih (i := i) (by simpa using h) (fun j hj hji => by
        have := h1 (j + 1) (by simpa using hj) (by omega)
        simpa using this) (fun hi => by
        have := h2 (by simpa using hi)
        simpa using this)]
theorem posS_lt {key : ByteArray} : ∀ {l : List Pr} {j : Nat} (h : j < l.length), j < posS key l → strLt (l[j]).1 key = true := by
  intro l
  induction l with
  | nil => intro j h; simp at h
  | cons x r ih =>
    intro j h hj
    simp only [posS] at hj
    split at hj
    · rename_i hx
      cases j with
      | zero => simpa using hx
      | succ j => simpa using ih (j := j) (by simpa using h) (by omega)
    · omega
theorem posS_at {key : ByteArray} : ∀ {l : List Pr} (h : posS key l < l.length), strLt (l[posS key l]).1 key = false := by
  intro l
  induction l with
  | nil => intro h; simp at h
  | cons x r ih =>
    intro h
    by_cases hx : strLt x.1 key = true
    · have e : posS key (x :: r) = posS key r + 1 := by simp [posS, hx]
      have h' : posS key r < r.length := by rw [e] at h; simpa using h
      have := ih h'
      simp only [e, List.getElem_cons_succ]; exact this
    · have e : posS key (x :: r) = 0 := by simp [posS, hx]
      simp only [e, List.getElem_cons_zero]; simpa using hx
theorem isS_get {key : ByteArray} {l : List Pr} {i : Nat} (h : posS key l = i) (hi : i < l.length) : isS key l = strEq (l[i]).1 key := by
  unfold isS; rw [h, List.getElem?_eq_getElem hi]
theorem isS_end {key : ByteArray} {l : List Pr} (h : l.length ≤ posS key l) : isS key l = false := by
  unfold isS; rw [List.getElem?_eq_none h]

theorem find_l0 (key : ByteArray) (l : List Pr) (hl : l.length ≤ 1000) : ∀ (m n N i : Nat), i + m = l.length → m < n → (∀ (j : Nat) (h : j < l.length), j < i → strLt (l[j]).1 key = true) →
    m_ticketlineref15_Find_l0 N n l key i = some ((posS key l : Int), isS key l) := by
  intro m
  induction m with
  | zero =>
    intro n N i hm hn hj
    obtain ⟨n, rfl⟩ : ∃ q, n = q + 1 := ⟨n - 1, by omega⟩
    have e : posS key l = i := posS_eq (by omega) hj (fun h => by omega)
    rw [isS_end (by omega), e]
    simp only [m_ticketlineref15_Find_l0, m_ticketlineref15_Find_l0_b, show ¬ (i : Int) < (l.length : Int) by omega, decide_false, Bool.false_eq_true, if_false]
  | succ m ih =>
    intro n N i hm hn hj
    obtain ⟨n, rfl⟩ : ∃ q, n = q + 1 := ⟨n - 1, by omega⟩
    have hi : i < l.length := by omega
    have w2 : IntKind.i64.wrap ((i : Int) + 1) = ((i + 1 : Nat) : Int) := by rw [wI (by omega) (by omega)]; omega
    simp only [m_ticketlineref15_Find_l0, m_ticketlineref15_Find_l0_b, show (i : Int) < (l.length : Int) by omega, decide_true, if_true, Int.natCast_nonneg, rd_GP, GP_get hi, w2]
    cases h : strLt (l[i]).1 key with
    | true =>
      simp only [if_true]
      exact ih n N (i + 1) (by omega) (by omega) fun j hj1 hj2 => by
        by_cases e : j = i
        · subst e; exact h
        · exact hj j hj1 (by omega)
    | false =>
      have e : posS key l = i := posS_eq (by omega) hj (fun _ => h)
      rw [isS_get e hi, e]
      simp only [Bool.false_eq_true, if_false]
theorem ref15_Find (key : ByteArray) (l : List Pr) (hl : l.length ≤ 1000) : m_ticketlineref15_Find l key = some ((posS key l : Int), isS key l) := by
  unfold m_ticketlineref15_Find m_ticketlineref15_Find_a
  exact find_l0 key l hl l.length FUEL FUEL 0 (by omega) (by have := FUEL_big; omega) (fun j h hj => by omega)

theorem place_l0 (key : ByteArray) {l : List Pr} (hs : srt l = true) (hl : l.length ≤ 1000) : ∀ (m n N a b : Nat), b ≤ a + m → a ≤ b → b ≤ l.length → m < n → (∀ (j : Nat) (h : j < l.length), j < a → strLt (l[j]).1 key = true) → (∀ (j : Nat) (h : j < l.length), b ≤ j → strLt key (l[j]).1 = true) →
    m_search_place_l0 N n l key a b false = some ((posS key l : Int), isS key l) := by
  have stop : ∀ (n N a b : Nat), b = a → a ≤ l.length → (∀ (j : Nat) (h : j < l.length), j < a → strLt (l[j]).1 key = true) → (∀ (j : Nat) (h : j < l.length), b ≤ j → strLt key (l[j]).1 = true) →
      m_search_place_l0 N (n + 1) l key a b false = some ((posS key l : Int), isS key l) := by
    intro n N a b hab ha h1 h2
    subst hab
    have e : posS key l = b := posS_eq ha h1 (fun h => strLt_asymm (h2 b h (Nat.le_refl _)))
    have ei : isS key l = false := by
      by_cases c : b < l.length
      · rw [isS_get e c]; exact strEq_false fun e' => by
          have := h2 b c (Nat.le_refl _)
          rw [e', strLt_irrefl] at this; cases this
      · exact isS_end (by omega)
    rw [e, ei]
    simp only [m_search_place_l0, m_search_place_l0_b, Int.lt_irrefl, decide_false, Bool.false_eq_true, if_false]
  intro m
  induction m with
  | zero =>
    intro n N a b hm hab hb hn h1 h2
    obtain ⟨n, rfl⟩ : ∃ q, n = q + 1 := ⟨n - 1, by omega⟩
    exact stop n N a b (by omega) (by omega) h1 h2
  | succ m ih =>
    intro n N a b hm hab hb hn h1 h2
    obtain ⟨n, rfl⟩ : ∃ q, n = q + 1 := ⟨n - 1, by omega⟩
    by_cases c : a = b
    · exact stop n N a b (by omega) (by omega) h1 h2
    have hmid : (a + b) / 2 < l.length := by omega
    have w1 : IntKind.i64.wrap (Int.tdiv (IntKind.i64.wrap ((a : Int) + (b : Int))) 2) = (((a + b) / 2 : Nat) : Int) := by
      rw [wI (x := (a : Int) + (b : Int)) (by omega) (by omega), Int.tdiv_eq_ediv_of_nonneg (by omega), wI (by omega) (by omega)]; omega
    have w2 : IntKind.i64.wrap ((((a + b) / 2 : Nat) : Int) + 1) = (((a + b) / 2 + 1 : Nat) : Int) := by rw [wI (by omega) (by omega)]; omega
    simp only [m_search_place_l0, m_search_place_l0_b, show (a : Int) < (b : Int) by omega, decide_true, if_true, w1, w2, Int.natCast_nonneg, show (((a + b) / 2 : Nat) : Int) < (l.length : Int) by omega, rd_GP, GP_get hmid, keys_Compare, Option.bind_some, cmpI]
    cases c1 : strLt (l[(a + b) / 2]).1 key with
    | true =>
      simp only [if_true, beq_self_eq_true]
      refine ih n N ((a + b) / 2 + 1) b (by omega) (by omega) hb (by omega) (fun j hj hji => ?_) h2
      by_cases e : j = (a + b) / 2
      · subst e; exact c1
      · exact strLt_trans (srt_lt hs j ((a + b) / 2) (by omega) hmid) c1
    | false =>
      cases c2 : strLt key (l[(a + b) / 2]).1 with
      | true =>
        simp only [Bool.false_eq_true, if_false, if_true, show ((1 : Int) == -1) = false by decide, beq_self_eq_true]
        refine ih n N a ((a + b) / 2) (by omega) (by omega) (by omega) (by omega) h1 (fun j hj hji => ?_)
        by_cases e : j = (a + b) / 2
        · subst e; exact c2
        · exact strLt_trans c2 (srt_lt hs ((a + b) / 2) j (by omega) hj)
      | false =>
        have heq : (l[(a + b) / 2]).1 = key := by
          rcases strLt_tri (l[(a + b) / 2]).1 key with h | h | h
          · rw [c1] at h; cases h
          · exact h
          · rw [c2] at h; cases h
        have e : posS key l = (a + b) / 2 := posS_eq (by omega) (fun j hj hji => by
          have := srt_lt hs j ((a + b) / 2) hji hmid
          rw [heq] at this; exact this) (fun _ => c1)
        rw [isS_get e hmid, e, heq, strEq_refl]
        simp only [Bool.false_eq_true, if_false, show ((0 : Int) == -1) = false by decide, show ((0 : Int) == 1) = false by decide]
theorem search_place (key : ByteArray) {l : List Pr} (hs : srt l = true) (hl : l.length ≤ 1000) : m_search_place l key = some ((posS key l : Int), isS key l) := by
  unfold m_search_place m_search_place_a
  exact place_l0 key hs hl l.length FUEL FUEL 0 l.length (by omega) (by omega) (by omega) (by have := FUEL_big; omega) (fun j h hj => by omega) (fun j h hj => by omega)

theorem search_Find {p : List Int} (hp : PageOK p) (key : ByteArray) : m_search_Find p key = some (if srtB p = true then ((posS key (pairsS p) : Int), isS key (pairsS p), (0 : Int)) else (0, false, badS p)) := by
  unfold m_search_Find
  rw [search_sorted hp]
  have hb := badS_zero (p := p)
  cases h : srtB p with
  | true =>
    obtain ⟨h1, h2⟩ := srtB_spec h
    simp only [if_true, Option.bind_some, bne_self_eq_false, Bool.false_eq_true, if_false, search_place key h2 (pairsS_len hp h1).1]
  | false =>
    rw [h] at hb
    have hb' : (badS p != 0) = true := by rw [bne, hb]; rfl
    simp only [Bool.false_eq_true, if_false, Option.bind_some, hb', if_true]

end Go.Ev.L
