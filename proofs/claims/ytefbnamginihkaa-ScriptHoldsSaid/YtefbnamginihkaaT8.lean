/- Seat 04: ScriptHolds. -/
import Derived.Test.YtefbnamginihkaaT7
set_option linter.unusedVariables false
set_option linter.unusedSimpArgs false
set_option maxRecDepth 10000
namespace Go.Ev.L.T4
open Go Go.Ev Go.Ev.M Go.Ev.L

theorem at_append {p q : List Int} {i : Nat} (h : i < p.length) : at' (p ++ q) i = at' p i := by
  unfold at'
  rw [List.getD_eq_getElem?_getD, List.getD_eq_getElem?_getD, List.getElem?_append_left h]
/-- the operation depends on its own bytes alone -/
theorem next_append {p : List Int} {t : Int} (q : List Int) (h : (nextS p t).2 ≤ p.length) : nextS (p ++ q) t = nextS p t := by
  have h2 := nextS_n p t
  have h0 := h
  unfold nextS at h ⊢
  rw [at_append (i := 0) (by omega), at_append (i := 1) (by omega)]
  unfold opS at h ⊢
  split
  · rfl
  rename_i c1
  rw [if_neg c1] at h
  split
  · rfl
  rename_i c2
  rw [if_neg c2] at h
  split
  · rename_i c3
    rw [if_pos c3] at h
    unfold startS at h ⊢
    dsimp only at h ⊢
    split
    · rename_i d; rw [if_pos d] at h; rw [at_append (i := 2) (by dsimp only at h; omega)]
    rename_i d1
    rw [if_neg d1] at h
    split
    · rename_i d; rw [if_pos d] at h; rw [at_append (i := 2) (by dsimp only at h; omega), at_append (i := 3) (by dsimp only at h; omega)]
    rename_i d2
    rw [if_neg d2] at h
    split
    · rename_i d; rw [if_pos d] at h; rw [at_append (i := 2) (by dsimp only at h; omega), at_append (i := 3) (by dsimp only at h; omega), at_append (i := 4) (by dsimp only at h; omega)]
    rename_i d3
    rw [if_neg d3] at h
    split
    · rename_i d; rw [if_pos d] at h; rw [at_append (i := 2) (by dsimp only at h; omega), at_append (i := 3) (by dsimp only at h; omega)]
    · rfl
  · rfl
theorem parse_split {t : Int} : ∀ (n : Nat) (b : List Int), b.length ≤ n → b ≠ [] → (nextS b t).2 ≤ b.length → ∀ q, parseS t (b.take (nextS b t).2 ++ q) = (nextS b t).1 :: parseS t q := by
  intro n b hb h0 hn q
  have h2 := nextS_n b t
  have hl : (b.take (nextS b t).2).length = (nextS b t).2 := by rw [List.length_take]; omega
  have e1 : nextS (b.take (nextS b t).2) t = nextS b t := by
    have hA := fun h => next_append (p := b.take (nextS b t).2) (t := t) (b.drop (nextS b t).2) h
    rw [List.take_append_drop] at hA
    -- the bytes ahead alone say how many there are
    have : nextS (b.take (nextS b t).2) t = nextS b t := by
      have hb2 : ∀ i, i < (nextS b t).2 → at' (b.take (nextS b t).2) i = at' b i := fun i hi => by
        conv => rhs; rw [← List.take_append_drop (nextS b t).2 b]
        rw [at_append (by omega)]
      have key : (nextS b t).2 = (nextS b t).2 := rfl
      generalize hN : (nextS b t).2 = N at *
      unfold nextS at hN ⊢
      rw [hb2 0 (by omega), hb2 1 (by omega)]
      unfold opS at hN ⊢
      split
      · rfl
      rename_i c1
      rw [if_neg c1] at hN
      split
      · rfl
      rename_i c2
      rw [if_neg c2] at hN
      split
      · rename_i c3
        rw [if_pos c3] at hN
        unfold startS at hN ⊢
        dsimp only at hN ⊢
        split
        · rename_i d; rw [if_pos d] at hN; dsimp only at hN; rw [hb2 2 (by omega)]
        rename_i d1
        rw [if_neg d1] at hN
        split
        · rename_i d; rw [if_pos d] at hN; dsimp only at hN; rw [hb2 2 (by omega), hb2 3 (by omega)]
        rename_i d2
        rw [if_neg d2] at hN
        split
        · rename_i d; rw [if_pos d] at hN; dsimp only at hN; rw [hb2 2 (by omega), hb2 3 (by omega), hb2 4 (by omega)]
        rename_i d3
        rw [if_neg d3] at hN
        split
        · rename_i d; rw [if_pos d] at hN; dsimp only at hN; rw [hb2 2 (by omega), hb2 3 (by omega)]
        · rfl
      · rfl
    exact this
  have e2 : nextS (b.take (nextS b t).2 ++ q) t = nextS b t := by
    rw [next_append q (by rw [e1]; omega), e1]
  have hne : b.take (nextS b t).2 ++ q ≠ [] := by
    intro h
    have := congrArg List.length h
    rw [List.length_append, hl] at this
    simp at this; omega
  rw [parseS_cons hne, e2]
  congr 1
  rw [List.drop_append, hl, Nat.sub_self, List.drop_zero, List.drop_of_length_le (by omega), List.nil_append]

theorem valuedS_valS {n : Int} (h : 0 ≤ n ∧ n < 256) : ∃ a, valuedS (valS n) = some a := by
  cases e : valuedS (valS n) with
  | some a => exact ⟨a, rfl⟩
  | none => exact absurd (by rw [Int.toNat_of_nonneg h.1]) (leastV_none e n.toNat (by omega) (by omega))
theorem enc_start {th p a c d : Int} (hth : 0 ≤ th ∧ th < 32) (hp : 0 ≤ p ∧ p < 256) (ha : 0 ≤ a ∧ a < 256) (hc : 0 ≤ c ∧ c < 256) (hd : 0 ≤ d ∧ d < 256) : (encO (startS th p a c d).1).isSome = true ∧ (startS th p a c d).1.2.1 = th := by
  have hka : keyedS (keyS a) := keyedS_iff.2 ⟨a, ha, rfl⟩
  obtain ⟨m, hm⟩ := valuedS_valS hc
  obtain ⟨m2, hm2⟩ := valuedS_valS hd
  have hv : p % 8 + 1 = 1 ∨ p % 8 + 1 = 2 ∨ p % 8 + 1 = 3 ∨ p % 8 + 1 = 4 ∨ p % 8 + 1 = 5 ∨ p % 8 + 1 = 6 ∨ p % 8 + 1 = 7 ∨ p % 8 + 1 = 8 := by omega
  have hk : 0 ≤ p / 8 ∧ p / 8 < 32 := by omega
  unfold startS encO
  dsimp only
  generalize p % 8 + 1 = v at hv
  generalize p / 8 = k at hk
  have hcc : 1 ≤ c % 32 + 1 ∧ c % 32 + 1 ≤ 32 := by omega
  rcases hv with rfl | rfl | rfl | rfl | rfl | rfl | rfl | rfl <;> simp [encS, reqS, hth.1, hth.2, hk.1, hk.2, hka, hm, hm2, hcc.1, hcc.2]
theorem enc_next {b : List Int} (hb : RB b) {t : Int} (ht : 1 ≤ t ∧ t ≤ 32) : (encO (nextS b t).1).isSome = true ∧ 0 ≤ (nextS b t).1.2.1 ∧ (nextS b t).1.2.1 < t := by
  have hx := hb.at 0
  have hp := hb.at 1
  have hth : 0 ≤ at' b 0 / 8 % t ∧ at' b 0 / 8 % t < t := ⟨Int.emod_nonneg _ (by omega), Int.emod_lt_of_pos _ (by omega)⟩
  unfold nextS opS
  split
  · refine ⟨?_, by dsimp only; omega, by dsimp only; omega⟩
    simp [encO, encS, hp.1, hp.2]
  split
  · have h8 : 1 ≤ at' b 1 % 8 + 1 ∧ at' b 1 % 8 + 1 ≤ 8 := by omega
    refine ⟨?_, by dsimp only; omega, by dsimp only; omega⟩
    simp [encO, encS, h8.1, h8.2]
  split
  · obtain ⟨h1, h2⟩ := enc_start (th := at' b 0 / 8 % t) (p := at' b 1) (a := at' b 2) (c := at' b 3) (d := at' b 4) ⟨hth.1, by omega⟩ hp (hb.at 2) (hb.at 3) (hb.at 4)
    exact ⟨h1, by rw [h2]; exact hth.1, by rw [h2]; exact hth.2⟩
  · have h16 : 1 ≤ at' b 1 % 16 + 1 ∧ at' b 1 % 16 + 1 ≤ 16 := by omega
    have h32 : at' b 0 / 8 % t < 32 := by omega
    refine ⟨?_, by dsimp only; exact hth.1, by dsimp only; exact hth.2⟩
    simp [encO, encS, h16.1, h16.2, hth.1, h32]
theorem next_enc {o : Op4} {l : List Int} (h : encO o = some l) {t : Int} (ht : 1 ≤ t ∧ t ≤ 32) (h1 : o.2.1 < t) : nextS l t = (o, l.length) ∧ RB l ∧ l ≠ [] := by
  obtain ⟨k, th, n, v, key, val, old, tk, u⟩ := o
  unfold encO encS at h
  dsimp only at h h1
  by_cases k3 : k = 3
  · subst k3
    rw [if_pos rfl] at h
    by_cases c : 0 ≤ th ∧ th < 32 ∧ 0 ≤ tk ∧ tk < 32 ∧ 1 ≤ v ∧ v ≤ 8
    case neg => rw [if_neg c] at h; cases h
    rw [if_pos c] at h
    obtain ⟨r, hr, rfl⟩ := Option.map_eq_some_iff.1 h
    have hx : (8 * th + 5) % 8 = 5 := by omega
    have eth : (8 * th + 5) / 8 % t = th := by rw [show (8 * th + 5) / 8 = th by omega, Int.emod_eq_of_lt (by omega) h1]
    have hpv : (v - 1 + 8 * tk) % 8 + 1 = v := by omega
    have hpk : (v - 1 + 8 * tk) / 8 = tk := by omega
    have hB : RB [8 * th + 5, v - 1 + 8 * tk] := RB2 (by omega) (by omega)
    have kr := keyN_range key
    have r1 : ∀ {a : Int}, 0 ≤ a ∧ a < 256 → RB [a] := fun h y hy => by simp only [List.mem_cons, List.not_mem_nil, or_false] at hy; rw [hy]; exact h
    have hne : nextS ([8 * th + 5, v - 1 + 8 * tk] ++ r) t = startS th (v - 1 + 8 * tk) (at' r 0) (at' r 1) (at' r 2) := by
      refine (next_req hx r t).trans ?_
      rw [eth]
    rw [hne]
    unfold startS
    dsimp only
    rw [hpv, hpk]
    unfold reqS at hr
    by_cases v78 : v = 7 ∨ v = 8
    · rw [if_pos v78] at hr
      split at hr
      · rename_i q
        obtain ⟨rfl, rfl, rfl, rfl⟩ := q
        cases hr
        rw [if_neg (by omega), if_neg (by omega), if_neg (by omega), if_neg (by omega)]
        exact ⟨rfl, hB.append (fun y hy => by cases hy), by simp⟩
      · cases hr
    rw [if_neg v78] at hr
    by_cases hk : keyedS key
    case neg => rw [if_neg hk] at hr; cases hr
    rw [if_pos hk] at hr
    have hkk : keyS (keyN key) = key := hk
    by_cases v6 : v = 6
    · rw [if_pos v6] at hr
      split at hr
      · rename_i q
        obtain ⟨rfl, rfl, q1, q2⟩ := q
        cases hr
        rw [if_neg (by omega), if_neg (by omega), if_neg (by omega), if_pos v6, at_zero, at_cons, at_zero, hkk, show (n - 1) % 32 + 1 = n by omega]
        exact ⟨rfl, hB.append ((r1 kr).append (r1 ⟨by omega, by omega⟩)), by simp⟩
      · cases hr
    rw [if_neg v6] at hr
    by_cases n0 : n = 0
    case neg => rw [if_neg n0] at hr; cases hr
    rw [if_pos n0] at hr
    subst n0
    by_cases v5 : v = 5
    · rw [if_pos v5] at hr
      cases eo : valuedS old with
      | none => rw [eo] at hr; cases hr
      | some a =>
        cases ev : valuedS val with
        | none => rw [eo, ev] at hr; cases hr
        | some c =>
          rw [eo, ev] at hr
          obtain ⟨r3, r4⟩ := leastV_range eo
          obtain ⟨q1, q2⟩ := leastV_range ev
          cases hr
          rw [if_neg (by omega), if_neg (by omega), if_pos v5, at_zero, at_cons, at_cons, at_zero, at_cons, at_zero, hkk, r4, q2]
          exact ⟨rfl, hB.append ((r1 kr).append ((r1 ⟨by omega, r3⟩).append (r1 ⟨by omega, q1⟩))), by simp⟩
    rw [if_neg v5] at hr
    by_cases o0 : old = eB
    case neg => rw [if_neg o0] at hr; cases hr
    rw [if_pos o0] at hr
    subst o0
    by_cases v23 : v = 2 ∨ v = 3
    · rw [if_pos v23] at hr
      cases ev : valuedS val with
      | none => rw [ev] at hr; cases hr
      | some c =>
        rw [ev] at hr
        obtain ⟨q1, q2⟩ := leastV_range ev
        cases hr
        rw [if_neg (by omega), if_pos v23, at_zero, at_cons, at_zero, hkk, q2]
        exact ⟨rfl, hB.append ((r1 kr).append (r1 ⟨by omega, q1⟩)), by simp⟩
    rw [if_neg v23] at hr
    by_cases v0 : val = eB
    case neg => rw [if_neg v0] at hr; cases hr
    rw [if_pos v0] at hr
    subst v0
    cases hr
    rw [if_pos (by omega), at_zero, hkk]
    exact ⟨rfl, hB.append (r1 kr), by simp⟩
  rw [if_neg k3] at h
  split at h
  case isFalse => cases h
  rename_i q
  obtain ⟨rfl, rfl, rfl, rfl, rfl⟩ := q
  split at h
  · rename_i k1
    subst k1
    split at h
    · rename_i c
      cases h
      refine ⟨?_, RB2 (by omega) (by omega), by simp⟩
      unfold nextS opS
      rw [at_zero, at_cons, at_zero, if_neg (by omega), if_neg (by omega), if_neg (by omega), show 8 * th / 8 % t = th by rw [show 8 * th / 8 = th by omega, Int.emod_eq_of_lt (by omega) h1], show (n - 1) % 16 + 1 = n by omega]
      rfl
    · cases h
  split at h
  · rename_i k2
    subst k2
    split at h
    · rename_i c
      obtain ⟨rfl, c1, c2⟩ := c
      cases h
      refine ⟨?_, RB2 (by omega) (by omega), by simp⟩
      unfold nextS opS
      rw [at_zero, at_cons, at_zero, if_pos (by decide)]
      rfl
    · cases h
  split at h
  · rename_i k4
    subst k4
    split at h
    · rename_i c
      obtain ⟨rfl, c1, c2⟩ := c
      cases h
      refine ⟨?_, RB2 (by omega) (by omega), by simp⟩
      unfold nextS opS
      rw [at_zero, at_cons, at_zero, if_neg (by decide), if_pos (by decide), show (n - 1) % 8 + 1 = n by omega]
      rfl
    · cases h
  cases h

theorem parse_enc {t : Int} (ht : 1 ≤ t ∧ t ≤ 32) : ∀ {l : List Op4} {w : List Int}, encAll l = some w → (∀ o, o ∈ l → o.2.1 < t) → parseS t w = l ∧ RB w ∧ w.length ≤ 5 * l.length := by
  intro l
  induction l with
  | nil =>
    intro w h _
    cases h
    have hB : RB [] := fun y hy => by cases hy
    exact ⟨parseS_nil t, hB, Nat.le_refl 0⟩
  | cons o l ih =>
    intro w h hl
    unfold encAll at h
    cases e : encO o with
    | none => rw [e] at h; cases h
    | some a =>
      rw [e] at h
      obtain ⟨r, hr, rfl⟩ := Option.map_eq_some_iff.1 h
      obtain ⟨i1, i2, i3⟩ := ih hr fun x hx => hl x (List.mem_cons_of_mem _ hx)
      obtain ⟨n1, n2, n3⟩ := next_enc e ht (hl o List.mem_cons_self)
      have hlen := encO_len e
      refine ⟨?_, n2.append i2, by rw [List.length_append, List.length_cons]; omega⟩
      have := parse_split a.length a (Nat.le_refl _) n3 (t := t) (by rw [n1]; exact Nat.le_refl _) r
      rw [n1] at this
      dsimp only at this
      rw [List.take_length] at this
      rw [this, i1]
theorem parse_valid {t : Int} (ht : 1 ≤ t ∧ t ≤ 32) : ∀ (n : Nat) (b : List Int), b.length ≤ n → RB b → (∃ w, encAll (parseS t b) = some w) ∧ (∀ o, o ∈ parseS t b → (encO o).isSome = true ∧ 0 ≤ o.2.1 ∧ o.2.1 < t) := by
  intro n
  induction n with
  | zero =>
    intro b hb hR
    have : b = [] := List.length_eq_zero_iff.1 (by omega)
    subst this
    exact ⟨⟨[], rfl⟩, fun o ho => by cases ho⟩
  | succ n ih =>
    intro b hb hR
    by_cases c : b = []
    · subst c; exact ⟨⟨[], rfl⟩, fun o ho => by cases ho⟩
    · have h2 := nextS_n b t
      have hlen : 1 ≤ b.length := by cases b with | nil => exact absurd rfl c | cons a l => simp
      obtain ⟨⟨w, hw⟩, i2⟩ := ih (b.drop (nextS b t).2) (by rw [List.length_drop]; omega) (hR.drop _)
      have hE := enc_next hR ht
      rw [parseS_cons c]
      refine ⟨?_, fun o ho => ?_⟩
      · obtain ⟨a, ha⟩ := Option.isSome_iff_exists.1 hE.1
        exact ⟨a ++ w, by unfold encAll; rw [ha, hw]; rfl⟩
      · rcases List.mem_cons.1 ho with rfl | h
        · exact hE
        · exact i2 o h
/-- bytes that end behind an operation -/
def Bd (t : Int) (p : List Int) : Prop := ∀ q, parseS t (p ++ q) = parseS t p ++ parseS t q
theorem Bd_nil (t : Int) : Bd t [] := fun q => rfl
theorem Bd_next {t : Int} {p r : List Int} (h : Bd t p) (hr : r ≠ []) (hn : (nextS r t).2 ≤ r.length) : Bd t (p ++ r.take (nextS r t).2) ∧ parseS t (p ++ r.take (nextS r t).2) = parseS t p ++ [(nextS r t).1] := by
  have hs := parse_split r.length r (Nat.le_refl _) hr hn
  have h0 := hs []
  rw [List.append_nil, parseS_nil] at h0
  have e : parseS t (p ++ r.take (nextS r t).2) = parseS t p ++ [(nextS r t).1] := by rw [h, h0]
  refine ⟨fun q => ?_, e⟩
  rw [e, List.append_assoc, h, hs q, List.append_assoc]; rfl
theorem key_facts {n : Int} (h : 0 ≤ n ∧ n < 256) : m_script_Key n = some (keyS n) ∧ 1 ≤ (keyS n).size ∧ (keyS n).size ≤ 24 := by
  have := keyS_size h
  exact ⟨script_Key h, by omega, by omega⟩
theorem win_take (b : List Int) (n : Nat) : win b 0 ((n : Int) - 0) = b.take n := by unfold win; rw [Int.sub_zero, Int.toNat_natCast]; rfl
theorem win_take4 (b : List Op4) (n : Nat) : win b 0 ((n : Int) - 0) = b.take n := by unfold win; rw [Int.sub_zero, Int.toNat_natCast]; rfl
theorem win_drop (b : List Int) (n : Nat) : win b (n : Int) ((b.length : Int) - n) = b.drop n := by
  unfold win
  rw [Int.toNat_natCast, List.take_of_length_le (by rw [List.length_drop]; omega)]
theorem holds_l0 {b : List Int} (hb : RB b) (hl : b.length ≤ 100) {t : Int} (ht : 1 ≤ t ∧ t ≤ 32) {cut : Int} (hc : 0 ≤ cut ∧ cut < 9223372036854775808) : ∀ (m n N i : Nat) (p r : List Int), i + m = (parseS t b).length → m < n →
    b = p ++ r → (Bd t p ∨ r = []) → parseS t p = (parseS t b).take i → parseS t r = (parseS t b).drop i →
    m_ticketlinelaw04_ScriptHolds_l0 N n b t cut (p.length : Int) ((parseS t b).length : Int) i (parseS t b) = some true := by
  have hPl := parseS_length (t := t) b.length b (Nat.le_refl _)
  obtain ⟨⟨w, hw⟩, hV⟩ := parse_valid ht b.length b (Nat.le_refl _) hb
  intro m
  induction m with
  | zero =>
    intro n N i p r hm hn hpr hB hp hr
    obtain ⟨n, rfl⟩ : ∃ q, n = q + 1 := ⟨n - 1, by omega⟩
    have hr0 : r = [] := by
      rw [List.drop_of_length_le (by omega)] at hr
      by_cases c : r = []
      · exact c
      · rw [parseS_cons c] at hr; cases hr
    have hpb : p = b := by rw [hpr, hr0, List.append_nil]
    subst hpb
    obtain ⟨e1, e2, e3⟩ := parse_enc ht hw fun o ho => (hV o ho).2.2
    have hW := script_Write (l := parseS t p) (by omega)
    rw [hw] at hW
    have hW : m_script_Write (parseS t p) = some (w, 0) := by
      rw [hW]
      show some (if 4096 < w.length then (([] : List Int), (5 : Int)) else (w, 0)) = _
      rw [if_neg (by omega)]
    have P := law_parses e2 (t := t) (by omega) (e := 0) (l := parseS t p) (by rw [if_neg (by omega), if_neg (by omega), e1])
    simp only [m_ticketlinelaw04_ScriptHolds_l0, m_ticketlinelaw04_ScriptHolds_l0_b, show ¬ (i : Int) < ((parseS t p).length : Int) by omega, decide_false, Bool.false_eq_true, if_false, hW, Option.bind_some, beq_self_eq_true, if_true, P, known04]
  | succ m ih =>
    intro n N i p r hm hn hpr hB hp hr
    obtain ⟨n, rfl⟩ : ∃ q, n = q + 1 := ⟨n - 1, by omega⟩
    have hi : i < (parseS t b).length := by omega
    have hd : (parseS t b).drop i = (parseS t b)[i] :: (parseS t b).drop (i + 1) := List.drop_eq_getElem_cons hi
    have hr0 : r ≠ [] := fun h => by rw [h, parseS_nil, hd] at hr; cases hr
    have hBp : Bd t p := hB.resolve_right hr0
    have hrl : 1 ≤ r.length := by cases r with | nil => exact absurd rfl hr0 | cons a l => simp
    have hlb : b.length = p.length + r.length := by rw [hpr, List.length_append]
    have hRr : RB r := fun x hx => hb x (by rw [hpr]; exact List.mem_append_right _ hx)
    have hdrop : b.drop p.length = r := by rw [hpr]; simp
    rw [hd, parseS_cons hr0] at hr
    obtain ⟨ho, hrest⟩ := List.cons.inj hr
    have hN := script_Next hRr (t := t) (by omega) hr0
    have h2 := nextS_n r t
    obtain ⟨v1, v2, v3⟩ := hV (parseS t b)[i] (List.getElem_mem hi)
    have hv := valid_O (parseS t b)[i]
    rw [v1] at hv
    have hrd := rd_op (l := parseS t b) (i := i) hi
    -- the step
    obtain ⟨k, hk, p', r', hk1, hk2, hp', hB', hpar, hrst⟩ : ∃ k : Nat, mn ((nextS r t).2 : Int) (r.length : Int) = k ∧ ∃ p' r' : List Int, 1 ≤ k ∧ k ≤ r.length ∧ (b = p' ++ r' ∧ p'.length = p.length + k ∧ b.take (p.length + k) = p') ∧ (Bd t p' ∨ r' = []) ∧ parseS t p' = (parseS t b).take (i + 1) ∧ parseS t r' = (parseS t b).drop (i + 1) := by
      have htk : (parseS t b).take (i + 1) = (parseS t b).take i ++ [(parseS t b)[i]] := by rw [List.take_add_one, List.getElem?_eq_getElem hi]; rfl
      by_cases c : (nextS r t).2 ≤ r.length
      · obtain ⟨b1, b2⟩ := Bd_next hBp hr0 c
        refine ⟨(nextS r t).2, by unfold mn; rw [if_neg (by omega)], p ++ r.take (nextS r t).2, r.drop (nextS r t).2, by omega, c, ⟨by rw [List.append_assoc, List.take_append_drop]; exact hpr, by rw [List.length_append, List.length_take]; omega, ?_⟩, Or.inl b1, by rw [b2, hp, htk, ho], hrest⟩
        conv => lhs; rw [hpr]
        rw [List.take_append, List.take_of_length_le (by omega), Nat.add_sub_cancel_left]
      · have hz : r.drop (nextS r t).2 = [] := List.drop_of_length_le (by omega)
        rw [hz, parseS_nil] at hrest
        refine ⟨r.length, by unfold mn; rw [if_pos (by omega)], b, [], by omega, Nat.le_refl _, ⟨by rw [List.append_nil], hlb, by rw [← hlb, List.take_length]⟩, Or.inr rfl, ?_, by rw [parseS_nil]; exact hrest⟩
        have : (parseS t b).length ≤ i + 1 := by
          have := congrArg List.length hrest
          rw [List.length_drop] at this; simp at this; omega
        rw [List.take_of_length_le this]
    rw [hk] at hN
    have I := ih n N (i + 1) p' r' (by omega) (by omega) hp'.1 hB' hpar hrst
    rw [hp'.2.1] at I
    have w1 : IntKind.i64.wrap ((i : Int) + 1) = ((i + 1 : Nat) : Int) := by rw [wI (by omega) (by omega)]; omega
    have w2 : IntKind.i64.wrap ((b.length : Int) - (p.length : Int)) = (b.length : Int) - p.length := wI (by omega) (by omega)
    have w3 : IntKind.i64.wrap ((p.length : Int) + (k : Int)) = ((p.length + k : Nat) : Int) := by rw [wI (by omega) (by omega)]; omega
    have hbq : Ty.beq tOp (nextS r t).1 (parseS t b)[i] = true := op_beq.2 ho
    have htup : ((parseS t b)[i].1, (parseS t b)[i].2.1, (parseS t b)[i].2.2.1, (parseS t b)[i].2.2.2.1, (parseS t b)[i].2.2.2.2.1, (parseS t b)[i].2.2.2.2.2.1, (parseS t b)[i].2.2.2.2.2.2.1, (parseS t b)[i].2.2.2.2.2.2.2.1, ()) = (parseS t b)[i] := rfl
    simp only [m_ticketlinelaw04_ScriptHolds_l0, m_ticketlinelaw04_ScriptHolds_l0_b, show (i : Int) < ((parseS t b).length : Int) by omega, decide_true, if_true, Int.natCast_nonneg, hrd, htup, hv, Option.bind_some, Bool.not_true, Bool.false_eq_true, if_false, show ¬ (parseS t b)[i].2.1 < 0 by omega, show ¬ (parseS t b)[i].2.1 ≥ t by omega, decide_false, show ¬ (p.length : Int) ≥ (b.length : Int) by omega, Int.le_refl, show (p.length : Int) ≤ (b.length : Int) by omega, win_drop, hdrop, hN, bne_self_eq_false, hbq, show ¬ (k : Int) < 1 by omega, w2, show ¬ (k : Int) > (b.length : Int) - p.length by omega, w3, w1]
    by_cases c : ((i + 1 : Nat) : Int) = cut
    · have P := law_parses (b := b.take (p.length + k)) (fun x hx => hb x (List.mem_of_mem_take hx)) (t := t) (by rw [List.length_take]; omega) (e := 0) (l := (parseS t b).take (i + 1)) (by rw [if_neg (by omega), if_neg (by rw [List.length_take]; omega), hp'.2.2, hpar])
      subst c
      simp only [beq_self_eq_true, if_true, show ((p.length + k : Nat) : Int) ≤ (b.length : Int) by omega, show ((i + 1 : Nat) : Int) ≤ ((parseS t b).length : Int) by omega, Int.natCast_nonneg, win_take, win_take4, P, Option.bind_some, Bool.not_true, Bool.false_eq_true, if_false, I]
    · have c2 : (((i + 1 : Nat) : Int) == cut) = false := by simp; omega
      simp only [c2, Bool.false_eq_true, if_false, I]
theorem scriptHolds_true {b : List Int} (hb : RB b) {t cut n o : Int} (hc : -9223372036854775808 ≤ cut ∧ cut < 9223372036854775808) (hn : 0 ≤ n ∧ n < 256) (ho : 0 ≤ o ∧ o < 256) : m_ticketlinelaw04_ScriptHolds b t cut n o = some true := by
  unfold m_ticketlinelaw04_ScriptHolds m_ticketlinelaw04_ScriptHolds_a
  by_cases c1 : (b.length : Int) > 100
  · simp only [c1, decide_true, if_true, known04, Option.bind_some]
  by_cases c2 : t < 1
  · simp only [c1, c2, decide_true, decide_false, Bool.false_eq_true, if_false, if_true, known04, Option.bind_some]
  by_cases c3 : t > 32
  · simp only [c1, c2, c3, decide_true, decide_false, Bool.false_eq_true, if_false, if_true, known04, Option.bind_some]
  by_cases c4 : cut < 0
  · simp only [c1, c2, c3, c4, decide_true, decide_false, Bool.false_eq_true, if_false, if_true, known04, Option.bind_some]
  obtain ⟨k1, k2, k3⟩ := key_facts hn
  have hv := valS_size hn
  have hK : (strEq (keyS n) (keyS o) == (n == o)) = true := by
    by_cases e : n = o
    · subst e; simp [strEq_refl']
    · have e1 : strEq (keyS n) (keyS o) = false := strEq_false fun h => e (keyS_inj hn ho h)
      have e2 : (n == o) = false := by simp [e]
      rw [e1, e2]; rfl
  have hP := script_Parse hb t (by omega)
  rw [if_neg (by omega), if_neg (by omega)] at hP
  have L := holds_l0 hb (by omega) (t := t) (by omega) (cut := cut) (by omega) (parseS t b).length FUEL FUEL 0 [] b (by omega) (by have := parseS_length (t := t) b.length b (Nat.le_refl _); have := FUEL_big; omega) rfl (Or.inl (Bd_nil t)) (by rw [List.take_zero]; exact parseS_nil t) (by rw [List.drop_zero])
  have L : m_ticketlinelaw04_ScriptHolds_l0 FUEL FUEL b t cut 0 ((parseS t b).length : Int) 0 (parseS t b) = some true := L
  simp only [c1, c2, c3, c4, decide_false, Bool.false_eq_true, if_false, k1, (key_facts ho).1, script_Value hn, Option.bind_some, show ¬ ((keyS n).size : Int) < 1 by omega, show ¬ ((keyS n).size : Int) > 24 by omega, show ¬ ((valS n).size : Int) > 40 by omega, hK, Bool.not_true, hP, bne_self_eq_false, L]
end Go.Ev.L.T4
