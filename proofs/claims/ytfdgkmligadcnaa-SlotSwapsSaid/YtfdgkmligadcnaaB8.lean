/- The page of a plan; law 14's pages and swaps. -/
import Derived.Test.YtfdgkmligadcnaaB7
set_option linter.unusedVariables false
set_option linter.unusedSimpArgs false
namespace Go.Ev.L
open Go Go.Ev Go.Ev.M

abbrev Sp := Int × (Int × Unit)
abbrev Pln := Int × (Int × (ByteArray × (ByteArray × ((List Pr) × ((List Int) × ((List Sp) × Unit))))))
def GS (l : List Sp) (i : Int) : Sp := l.getD i.toNat (0, (0, ()))
theorem rd_GS (l : List Sp) (i : Int) : rd (.pair (.int .u8) (.pair (.int .u64) .nl)) l i = GS l i := rfl
def U8 (l : List Int) : Prop := ∀ x, x ∈ l → 0 ≤ x ∧ x < 256
theorem U8.G {l : List Int} (h : U8 l) (i : Int) : 0 ≤ G l i ∧ G l i < 256 := by
  unfold L.G
  rw [List.getD_eq_getElem?_getD]
  cases e : l[i.toNat]? with
  | none => simp
  | some x => exact h x (List.mem_of_getElem? e)
def SpOK (l : List Sp) : Prop := ∀ x, x ∈ l → 0 ≤ x.1 ∧ x.1 < 256 ∧ 0 ≤ x.2.1 ∧ x.2.1 < 18446744073709551616
theorem SpOK.G {l : List Sp} (h : SpOK l) (i : Int) : 0 ≤ (GS l i).1 ∧ (GS l i).1 < 256 ∧ 0 ≤ (GS l i).2.1 ∧ (GS l i).2.1 < 18446744073709551616 := by
  unfold GS
  rw [List.getD_eq_getElem?_getD]
  cases e : l[i.toNat]? with
  | none => simp
  | some x => exact h x (List.mem_of_getElem? e)
/-- a plan whose numbers are within their kinds -/
structure PlnOK (x : Pln) : Prop where
  gaps : U8 x.2.2.2.2.2.1
  spoils : SpOK x.2.2.2.2.2.2.1
  next : x.2.1 < 9223372036854775808

/-- a page, and whether it is the plan's -/
def PRes (l : List Pr) (r : Option (List Int × Bool)) : Prop := ∃ p b, r = some (p, b) ∧ PageOK p ∧ (b = true → l.length ≤ 60)
theorem PRes.zero (l : List Pr) : PRes l (some (List.replicate 128 0, false)) := ⟨_, _, rfl, page_zero, fun h => by cases h⟩

theorem u64_mod (x : Int) : 0 ≤ x % 18446744073709551616 ∧ x % 18446744073709551616 < 18446744073709551616 := by omega

theorem plan_l3 {l : List Pr} (hl : l.length ≤ 60) (a b : Int) (lo hi : ByteArray) (gaps : List Int) (sp : List Sp) (hsp : SpOK sp) (z : List Int) : ∀ (m n N i : Nat) (p : List Int), i + m = 10 → m < n → PageOK p →
    PRes l (m_ticketlineref14_Plan_Page_l3 N n i a b lo hi l gaps sp z p) := by
  intro m
  induction m with
  | zero =>
    intro n N i p hm hn hp
    obtain ⟨n, rfl⟩ : ∃ q, n = q + 1 := ⟨n - 1, by omega⟩
    simp only [m_ticketlineref14_Plan_Page_l3, m_ticketlineref14_Plan_Page_l3_b]
    by_cases c : (i : Int) < (sp.length : Int)
    · simp only [c, decide_true, if_true, show ¬ (i : Int) < 10 by omega, decide_false, Bool.false_eq_true, if_false]
      exact ⟨_, _, rfl, hp, fun _ => hl⟩
    · simp only [c, decide_false, Bool.false_eq_true, if_false]
      exact ⟨_, _, rfl, hp, fun _ => hl⟩
  | succ m ih =>
    intro n N i p hm hn hp
    obtain ⟨n, rfl⟩ : ∃ q, n = q + 1 := ⟨n - 1, by omega⟩
    simp only [m_ticketlineref14_Plan_Page_l3, m_ticketlineref14_Plan_Page_l3_b]
    by_cases c : (i : Int) < (sp.length : Int)
    · have hs := hsp.G i
      have w2 : IntKind.i64.wrap ((i : Int) + 1) = ((i + 1 : Nat) : Int) := by rw [wI (by omega) (by omega)]; omega
      have w3 : IntKind.i64.wrap (Int.tmod (GS sp i).1 128) = (GS sp i).1 % 128 := by rw [Int.tmod_eq_emod_of_nonneg hs.1, wI (by omega) (by omega)]
      simp only [c, decide_true, if_true, show (i : Int) < 10 by omega, Int.natCast_nonneg, rd_GS, rd_G, w2, w3, show (0 : Int) ≤ (GS sp i).1 % 128 by omega, show (GS sp i).1 % 128 < 128 by omega, wUmod]
      have hm := u64_mod (G p ((GS sp i).1 % 128) + (GS sp i).2.1)
      exact ih n N (i + 1) _ (by omega) (by omega) (hp.set _ hm.1 hm.2)
    · simp only [c, decide_false, Bool.false_eq_true, if_false]
      exact ⟨_, _, rfl, hp, fun _ => hl⟩

/-- what is kept while slots are put -/
structure Inv (k : Nat) (i : Nat) (p : List Int) : Prop where
  page : PageOK p
  nine : G p 9 = i
  top : 20 + (k : Int) ≤ G p 11
  top1 : G p 11 ≤ 128

theorem PageOK.len {p : List Int} (h : PageOK p) : p.length = 128 := h.1

theorem ref_Put {k i : Nat} {p : List Int} (h : Inv k i p) (hk : k ≤ 60) (hi : i < k) {x : Pr} (h1 : x.1.size ≤ 60) (h2 : x.2.1.size ≤ 60) (hc : 20 + (k : Int) + costS x ≤ G p 11) : ∃ q, m_ticketlineref14_Put p x = some q ∧ Inv k (i + 1) q := by
  have hp := h.page
  have hlen := hp.1
  have W1 := W_le (n := (x.1.size : Int)) (by omega)
  have W2 := W_le (n := (x.2.1.size : Int)) (by omega)
  have h9 := h.nine
  have h11 := h.top1
  have hcost : costS x = 1 + W x.1.size + W x.2.1.size := rfl
  have N1 := W_nonneg (x.1.size : Int)
  have N2 := W_nonneg (x.2.1.size : Int)
  have hll : ((packS x.1 ++ packS x.2.1).length : Int) = W x.1.size + W x.2.1.size := by
    rw [List.length_append, packS_length, packS_length]; omega
  have hf : fits ((packS x.1).length + (packS x.2.1).length) 8 := by rw [packS_length, packS_length]; unfold fits; omega
  have hu : U64 (packS x.1 ++ packS x.2.1) := fun y hy => (List.mem_append.1 hy).elim (packS_u64 _ y) (packS_u64 _ y)
  generalize hL : packS x.1 ++ packS x.2.1 = L at *
  have w1 : IntKind.u64.wrap (L.length : Int) = L.length := wU (by omega) (by omega)
  have w2 : IntKind.u64.wrap (G p 11 - (L.length : Int)) = G p 11 - L.length := wU (by omega) (by omega)
  have hp1 : PageOK (p.set 11 (G p 11 - L.length)) := hp.set 11 (by omega) (by omega)
  have g11 : G (p.set 11 (G p 11 - L.length)) 11 = G p 11 - L.length := by rw [G_set (by omega) 11 (by omega)]; rfl
  have w3 : IntKind.i64.wrap (G p 11 - (L.length : Int)) = G p 11 - L.length := wI (by omega) (by omega)
  have hput : m_ticketlineref14_put (p.set 11 (G p 11 - L.length)) (G p 11 - L.length) L = some (splice (p.set 11 (G p 11 - L.length)) (G p 11 - L.length) L) := ref_put hp1.1 (by omega) (by omega)
  have hp2 : PageOK (splice (p.set 11 (G p 11 - L.length)) (G p 11 - L.length) L) := splice_page hp1 (by omega) (by omega) hu
  have gs : ∀ j, 0 ≤ j → j < 20 → G (splice (p.set 11 (G p 11 - L.length)) (G p 11 - L.length) L) j = if j = 11 then G p 11 - L.length else G p j := by
    intro j h0 h20
    rw [G_splice (by omega) (by rw [hp1.1]; omega) j h0, if_neg (by omega), G_set (by omega) j h0]
    rfl
  generalize hq : splice (p.set 11 (G p 11 - L.length)) (G p 11 - L.length) L = q at *
  have g9 : G q 9 = i := by rw [gs 9 (by omega) (by omega), if_neg (by omega)]; exact h9
  have g11' : G q 11 = G p 11 - L.length := by rw [gs 11 (by omega) (by omega), if_pos rfl]
  have w4 : IntKind.i64.wrap (20 + IntKind.i64.wrap (i : Int)) = 20 + i := by rw [wI (x := (i : Int)) (by omega) (by omega), wI (by omega) (by omega)]
  unfold m_ticketlineref14_Put
  rw [ref_Pack (by omega), ref_Pack (by omega)]
  simp only [Option.bind_some, hf, if_true, rd_G, hL, w1, w2, g11, w3, hput, g9, w4, show (0 : Int) ≤ 20 + (i : Int) by omega, show 20 + (i : Int) < 128 by omega]
  generalize IntKind.u64.wrap (IntKind.u64.wrap (65536 * G q 11) + IntKind.u64.wrap (256 * IntKind.u64.wrap ↑x.1.size)) = u
  have hm := u64_mod (u + IntKind.u64.wrap (x.2.1.size : Int))
  have hp3 := hp2.set (20 + (i : Int)).toNat (x := IntKind.u64.wrap (u + IntKind.u64.wrap (x.2.1.size : Int))) (by rw [wUmod]; exact hm.1) (by rw [wUmod]; exact hm.2)
  have gg : ∀ j, 0 ≤ j → j < 20 → G (q.set (20 + (i : Int)).toNat (IntKind.u64.wrap (u + IntKind.u64.wrap (x.2.1.size : Int)))) j = G q j := by
    intro j h0 h20
    rw [G_set (by rw [hp2.1]; omega) j h0, if_neg (by omega)]
  generalize hr : q.set (20 + (i : Int)).toNat (IntKind.u64.wrap (u + IntKind.u64.wrap (x.2.1.size : Int))) = r at *
  have w5 : IntKind.u64.wrap (G r 9 + 1) = (i : Int) + 1 := by rw [gg 9 (by omega) (by omega), g9, wU (by omega) (by omega)]
  rw [w5]
  refine ⟨_, rfl, hp3.set 9 (by omega) (by omega), ?_, ?_, ?_⟩
  · rw [G_set (by rw [hp3.1]; omega) 9 (by omega)]; rfl
  · rw [G_set (by rw [hp3.1]; omega) 11 (by omega), if_neg (by omega), gg 11 (by omega) (by omega), g11']; omega
  · rw [G_set (by rw [hp3.1]; omega) 11 (by omega), if_neg (by omega), gg 11 (by omega) (by omega), g11']; omega

theorem plan_l2 {l : List Pr} (hl : l.length ≤ 60) (s1 : Int → Int → Int → ByteArray → ByteArray → (List Pr) → (List Int) → (List Sp) → (List Int) → (List Int) → Option ((List Int) × Bool)) (i : Nat) (hi : i < l.length) (g : Int) (hg : g ≤ 3) (a b : Int) (lo hi' : ByteArray) (gaps : List Int) (sp : List Sp) (z : List Int)
    (hx : (GP l i).1.size ≤ 60 ∧ (GP l i).2.1.size ≤ 60)
    (hs : ∀ q, Inv l.length (i + 1) q → PRes l (s1 ((i + 1 : Nat) : Int) a b lo hi' l gaps sp z q)) : ∀ (m n N : Nat) (j : Int) (p : List Int), j + m = g → 0 ≤ j → m < n → Inv l.length i p → 20 + (l.length : Int) + m + costS (GP l i) ≤ G p 11 →
    PRes l (m_ticketlineref14_Plan_Page_l2 N s1 n i g j a b lo hi' l gaps sp z p) := by
  have hcr := costS_range (x := GP l i) (by omega)
  intro m
  induction m with
  | zero =>
    intro n N j p hm hj hn hp ht
    obtain ⟨n, rfl⟩ : ∃ q, n = q + 1 := ⟨n - 1, by omega⟩
    obtain ⟨q, h1, h2⟩ := ref_Put hp hl hi hx.1 hx.2 (by omega)
    have w2 : IntKind.i64.wrap ((i : Int) + 1) = ((i + 1 : Nat) : Int) := by rw [wI (by omega) (by omega)]; omega
    simp only [m_ticketlineref14_Plan_Page_l2, m_ticketlineref14_Plan_Page_l2_b, show ¬ j < g by omega, decide_false, Bool.false_eq_true, if_false, Int.natCast_nonneg, if_true, show (i : Int) < (l.length : Int) by omega, rd_GP, h1, Option.bind_some, w2]
    exact hs q h2
  | succ m ih =>
    intro n N j p hm hj hn hp ht
    obtain ⟨n, rfl⟩ : ∃ q, n = q + 1 := ⟨n - 1, by omega⟩
    have hlen := hp.page.1
    have h11 := hp.top1
    have w2 : IntKind.i64.wrap (j + 1) = j + 1 := wI (by omega) (by omega)
    have w3 : IntKind.u64.wrap (G p 11 - 1) = G p 11 - 1 := wU (by omega) (by omega)
    have g11 : G (p.set 11 (G p 11 - 1)) 11 = G p 11 - 1 := by rw [G_set (by omega) 11 (by omega)]; rfl
    have hp1 : PageOK (p.set 11 (G p 11 - 1)) := hp.page.set 11 (by omega) (by omega)
    simp only [m_ticketlineref14_Plan_Page_l2, m_ticketlineref14_Plan_Page_l2_b, show j < g by omega, decide_true, if_true, rd_G, w2, w3, g11, show (0 : Int) ≤ G p 11 - 1 by omega, show G p 11 - 1 < 128 by omega]
    have gg : ∀ k, 0 ≤ k → k < 20 → G ((p.set 11 (G p 11 - 1)).set (G p 11 - 1).toNat 57005) k = if k = 11 then G p 11 - 1 else G p k := by
      intro k h0 h20
      rw [G_set (by rw [hp1.1]; omega) k h0, if_neg (by omega), G_set (by omega) k h0]; rfl
    refine ih n N (j + 1) _ (by omega) (by omega) (by omega) ⟨hp1.set _ (by omega) (by omega), ?_, ?_, ?_⟩ ?_
    · rw [gg 9 (by omega) (by omega), if_neg (by omega)]; exact hp.nine
    · rw [gg 11 (by omega) (by omega), if_pos rfl]; omega
    · rw [gg 11 (by omega) (by omega), if_pos rfl]; omega
    · rw [gg 11 (by omega) (by omega), if_pos rfl]; omega

theorem plan_l1 {l : List Pr} (hl : l.length ≤ 60) (a b : Int) (lo hi' : ByteArray) (gaps : List Int) (hgp : U8 gaps) (sp : List Sp) (hsp : SpOK sp) (z : List Int) : ∀ (m n N i : Nat) (p : List Int), 1000 < N → i + m = l.length → m < n → Inv l.length i p →
    PRes l (m_ticketlineref14_Plan_Page_l1 N n i a b lo hi' l gaps sp z p) := by
  intro m
  induction m with
  | zero =>
    intro n N i p hN hm hn hp
    obtain ⟨n, rfl⟩ : ∃ q, n = q + 1 := ⟨n - 1, by omega⟩
    simp only [m_ticketlineref14_Plan_Page_l1, m_ticketlineref14_Plan_Page_l1_b, show ¬ (i : Int) < (l.length : Int) by omega, decide_false, Bool.false_eq_true, if_false]
    exact plan_l3 hl a b lo hi' gaps sp hsp z 10 N N 0 p (by omega) (by omega) hp.page
  | succ m ih =>
    intro n N i p hN hm hn hp
    obtain ⟨n, rfl⟩ : ∃ q, n = q + 1 := ⟨n - 1, by omega⟩
    have hi : i < l.length := by omega
    have h11 := hp.top1
    have h11' := hp.top
    have w11 : IntKind.i64.wrap (G p 11) = G p 11 := wI (by omega) (by omega)
    -- a round with a gap of g words
    have round : ∀ g : Int, 0 ≤ g → g ≤ 3 → PRes l (if decide (((GP l i).1.size : Int) > 60) = true then some (List.replicate 128 0, false) else if decide (((GP l i).2.1.size : Int) > 60) = true then some (List.replicate 128 0, false) else
        Option.bind (m_ticketlineref14_Cost (GP l i)) fun r49 => if decide (G p 11 < IntKind.i64.wrap (IntKind.i64.wrap (IntKind.i64.wrap (20 + (l.length : Int)) + g) + r49)) = true then some (List.replicate 128 0, false) else
          m_ticketlineref14_Plan_Page_l2 N (m_ticketlineref14_Plan_Page_l1 N n) N i g 0 a b lo hi' l gaps sp z p) := by
      intro g g0 g3
      by_cases c1 : ((GP l i).1.size : Int) > 60
      · simp only [c1, decide_true, if_true]; exact PRes.zero l
      by_cases c2 : ((GP l i).2.1.size : Int) > 60
      · simp only [c1, c2, decide_true, if_true, decide_false, Bool.false_eq_true, if_false]; exact PRes.zero l
      have hcr := costS_range (x := GP l i) (by omega)
      simp only [c1, c2, decide_false, Bool.false_eq_true, if_false, ref_Cost (x := GP l i) (by omega) (by omega), Option.bind_some]
      rw [wI (x := 20 + (l.length : Int)) (by omega) (by omega), wI (x := 20 + (l.length : Int) + g) (by omega) (by omega), wI (x := 20 + (l.length : Int) + g + costS (GP l i)) (by omega) (by omega)]
      by_cases c3 : G p 11 < 20 + (l.length : Int) + g + costS (GP l i)
      · simp only [c3, decide_true, if_true]; exact PRes.zero l
      simp only [c3, decide_false, Bool.false_eq_true, if_false]
      exact plan_l2 hl _ i hi g g3 a b lo hi' gaps sp z (by omega) (fun q hq => ih n N (i + 1) q hN (by omega) (by omega) hq) g.toNat N N 0 p (by omega) (by omega) (by omega) hp (by omega)
    simp only [m_ticketlineref14_Plan_Page_l1, m_ticketlineref14_Plan_Page_l1_b, show (i : Int) < (l.length : Int) by omega, decide_true, if_true, rd_GP, rd_G, Int.natCast_nonneg, w11]
    by_cases c : (gaps.length : Int) > 0
    · have hr : 0 ≤ Int.tmod (i : Int) gaps.length ∧ Int.tmod (i : Int) gaps.length < gaps.length := by
        rw [Int.tmod_eq_emod_of_nonneg (by omega)]
        exact ⟨Int.emod_nonneg _ (by omega), Int.emod_lt_of_pos _ c⟩
      have hu := hgp.G (Int.tmod (i : Int) gaps.length)
      have w4 : IntKind.i64.wrap (Int.tmod (G gaps (Int.tmod (i : Int) gaps.length)) 4) = G gaps (Int.tmod (i : Int) gaps.length) % 4 := by rw [Int.tmod_eq_emod_of_nonneg hu.1, wI (by omega) (by omega)]
      simp only [c, decide_true, if_true, show (gaps.length : Int) ≠ 0 by omega, ne_eq, not_false_eq_true, hr.1, hr.2, w4]
      exact round _ (by omega) (by omega)
    · simp only [c, decide_false, Bool.false_eq_true, if_false]
      exact round 0 (by omega) (by omega)

theorem plan_l0 {l : List Pr} (hl : l.length ≤ 60) (a b : Int) (lo hi' : ByteArray) (gaps : List Int) (hgp : U8 gaps) (sp : List Sp) (hsp : SpOK sp) (z : List Int) : ∀ (m n N i : Nat) (p : List Int), 1000 < N → i + m = 8 → m < n → Inv 60 0 p →
    PRes l (m_ticketlineref14_Plan_Page_l0 N n i a b lo hi' l gaps sp z p) := by
  intro m
  induction m with
  | zero =>
    intro n N i p hN hm hn hp
    obtain ⟨n, rfl⟩ : ∃ q, n = q + 1 := ⟨n - 1, by omega⟩
    simp only [m_ticketlineref14_Plan_Page_l0, m_ticketlineref14_Plan_Page_l0_b, show ¬ (i : Int) < 8 by omega, decide_false, Bool.false_eq_true, if_false]
    have h1 := hp.top
    exact plan_l1 hl a b lo hi' gaps hgp sp hsp z l.length N N 0 p hN (by omega) (by omega) ⟨hp.page, hp.nine, by omega, hp.top1⟩
  | succ m ih =>
    intro n N i p hN hm hn hp
    obtain ⟨n, rfl⟩ : ∃ q, n = q + 1 := ⟨n - 1, by omega⟩
    have hlen := hp.page.1
    have w2 : IntKind.i64.wrap ((i : Int) + 1) = ((i + 1 : Nat) : Int) := by rw [wI (by omega) (by omega)]; omega
    have w3 : IntKind.u64.wrap (IntKind.i64.wrap (1000 + (i : Int))) = 1000 + i := by rw [wI (by omega) (by omega), wU (by omega) (by omega)]
    simp only [m_ticketlineref14_Plan_Page_l0, m_ticketlineref14_Plan_Page_l0_b, show (i : Int) < 8 by omega, decide_true, if_true, Int.natCast_nonneg, show (i : Int) < 128 by omega, w2, w3, Int.toNat_natCast]
    refine ih n N (i + 1) _ hN (by omega) (by omega) ⟨hp.page.set i (by omega) (by omega), ?_, ?_, ?_⟩
    · rw [G_set (by omega) 9 (by omega), if_neg (by omega)]; exact hp.nine
    · rw [G_set (by omega) 11 (by omega), if_neg (by omega)]; exact hp.top
    · rw [G_set (by omega) 11 (by omega), if_neg (by omega)]; exact hp.top1

theorem G_empty {level : Int} {low high : ByteArray} (hl : low.size ≤ 24) (hh : high.size ≤ 24) (j : Int) (h0 : 0 ≤ j) (h1 : j < 12) : G (emptyS level low high) j = if j = 8 then 1 + level else if j = 11 then 128 else 0 := by
  have p1 := packS_len3 hl
  have p2 := packS_len3 hh
  unfold emptyS
  rw [G_splice (by omega) (by rw [splice_length _ _ (by omega) (by simp; omega)]; simp; omega) j h0, if_neg (by omega), G_splice (by omega) (by simp; omega) j h0, if_neg (by omega),
    G_set (by simp) j h0, if_neg (by omega), G_set (by simp) j h0, if_neg (by omega), G_set (by simp) j h0, G_set (by simp) j h0]
  have hz : G (List.replicate 128 0) j = 0 := by
    unfold G; rw [List.getD_eq_getElem?_getD, List.getElem?_replicate]; split <;> rfl
  rw [hz]
  by_cases c1 : j = 8
  · subst c1; rfl
  · by_cases c2 : j = 11
    · subst c2; rfl
    · rw [if_neg (by omega), if_neg (by omega), if_neg c1, if_neg c2]

/-- the page of a plan -/
theorem plan_page {x : Pln} (h : PlnOK x) : PRes x.2.2.2.2.1 (m_ticketlineref14_Plan_Page x) := by
  unfold m_ticketlineref14_Plan_Page m_ticketlineref14_Plan_Page_a
  by_cases c1 : (x.2.2.1.size : Int) > 24
  · simp only [c1, decide_true, if_true]; exact PRes.zero _
  by_cases c2 : (x.2.2.2.1.size : Int) > 24
  · simp only [c1, c2, decide_true, if_true, decide_false, Bool.false_eq_true, if_false]; exact PRes.zero _
  by_cases c3 : (x.2.2.2.2.1.length : Int) > 60
  · simp only [c1, c2, c3, decide_true, if_true, decide_false, Bool.false_eq_true, if_false]; exact PRes.zero _
  by_cases c4 : x.2.1 < 0
  · simp only [c1, c2, c3, c4, decide_true, if_true, decide_false, Bool.false_eq_true, if_false]; exact PRes.zero _
  by_cases c5 : x.1 < -1
  · simp only [c1, c2, c3, c4, c5, decide_true, if_true, decide_false, Bool.false_eq_true, if_false]; exact PRes.zero _
  by_cases c6 : x.1 > 300
  · simp only [c1, c2, c3, c4, c5, c6, decide_true, if_true, decide_false, Bool.false_eq_true, if_false]; exact PRes.zero _
  have hn := h.next
  have w1 : IntKind.u64.wrap x.2.1 = x.2.1 := wU (by omega) (by omega)
  simp only [c1, c2, c3, c4, c5, c6, decide_false, Bool.false_eq_true, if_false, ref_Empty (level := x.1) (low := x.2.2.1) (high := x.2.2.2.1) (by omega) (by omega) (by omega) (by omega), Option.bind_some, w1]
  have hE := empty_page (level := x.1) (low := x.2.2.1) (high := x.2.2.2.1) (by omega) (by omega) (by omega) (by omega)
  have hlen := hE.1
  refine plan_l0 (by omega) _ _ _ _ _ h.gaps _ h.spoils _ 8 FUEL FUEL 0 _ (by have := FUEL_big; omega) (by omega) (by have := FUEL_big; omega) ⟨hE.set 10 (by omega) (by omega), ?_, ?_, ?_⟩
  · rw [G_set (by omega) 9 (by omega), if_neg (by omega), G_empty (by omega) (by omega) 9 (by omega) (by omega)]; rfl
  · rw [G_set (by omega) 11 (by omega), if_neg (by omega), G_empty (by omega) (by omega) 11 (by omega) (by omega), if_neg (by omega), if_pos rfl]; omega
  · rw [G_set (by omega) 11 (by omega), if_neg (by omega), G_empty (by omega) (by omega) 11 (by omega) (by omega), if_neg (by omega), if_pos rfl]; omega

theorem plan_used {x : Pln} (h : PlnOK x) : ∃ p b, m_ticketlineref14_Plan_Page x = some (p, b) ∧ PageOK p ∧ (b = true → x.2.2.2.2.1.length ≤ 60) ∧ m_ticketlineref14_Plan_Used x = some (p, b && validB p) := by
  obtain ⟨p, b, h1, h2, h3⟩ := plan_page h
  refine ⟨p, b, h1, h2, h3, ?_⟩
  unfold m_ticketlineref14_Plan_Used
  rw [h1]
  cases b
  · rfl
  · simp [ref_Valid h2]

theorem slotPages_true {x : Pln} (h : PlnOK x) : m_ticketlinelaw14_SlotPages x = some true := by
  obtain ⟨p, b, h1, h2, h3⟩ := plan_page h
  unfold m_ticketlinelaw14_SlotPages
  rw [h1]
  cases b <;> simp [known14, right_true h2]
end Go.Ev.L
