/- Law 16: the changes of a page are the reference's. -/
import Derived.Test.YtfohnbfhajkelaaQ4
import Derived.KernelRfl
set_option linter.unusedVariables false
set_option linter.unusedSimpArgs false
set_option linter.unusedSectionVars false
set_option maxRecDepth 10000
namespace Go.Ev.L
open Go Go.Ev Go.Ev.M

theorem known16 : m_ticketlinelaw16_known = some true := by kernel_rfl

section
variable {p : List Int} (hp : PageOK p) (hs : srtB p = true) {x : Pr} (h1 : x.1.size ≤ 1000) (h2 : x.2.1.size ≤ 1000)
include hp hs
theorem find_eq (key v : ByteArray) : m_page_find p key v = some ((keyI p key : Int), isI p key, allowedS (G p 8 == 1) (keyI p key) (key, (v, ()))) := by
  obtain ⟨hv, hsr⟩ := srtB_spec hs
  have e : ((G p 8 - 1 == 0) : Bool) = (G p 8 == 1) := by
    rw [Bool.eq_iff_iff, beq_iff_eq, beq_iff_eq]; omega
  unfold m_page_find
  rw [search_Find hp, hs, slot_Level hp, hv]
  simp only [if_true, Option.bind_some, bne_self_eq_false, Bool.false_eq_true, if_false, e, page_allowed]
  rfl
include h1 h2
theorem room_eq {old : Int} (o0 : 0 ≤ old) (o1 : old ≤ 1000) : m_page_room p x.1 x.2.1 old = some (if sumC (pairsS p) + costS x - old > 108 then (7 : Int) else 0) := by
  obtain ⟨hv, hsr⟩ := srtB_spec hs
  have h108 := sum_108 hp hv
  have hl : (pairsS p).length = count p := pairsTo_length _ _
  obtain ⟨hc, hc9⟩ := count_le hp hv
  have n := sumC_nonneg (l := pairsS p) (pairsTo_small (p := p) (n := count p) (by omega)).2
  have hcr := costS_range (x := x) ⟨h1, h2⟩
  have hce : costS (x.1, (x.2.1, ())) = costS x := rfl
  unfold m_page_room
  rw [slot_Load hp, hv, if_pos rfl, slot_Cost (by omega) (by omega), hce]
  simp only [Option.bind_some, bne_self_eq_false, Bool.false_eq_true, if_false]
  rw [wI (x := sumC (pairsS p) - old) (by omega) (by omega), wI (by omega) (by omega), show sumC (pairsS p) - old + costS x = sumC (pairsS p) + costS x - old by omega]
  by_cases c : sumC (pairsS p) + costS x - old > 108
  · simp only [c, decide_true, if_true]
  · simp only [c, decide_false, Bool.false_eq_true, if_false]
theorem Insert_eq : m_page_Insert p x.1 x.2.1 = some (putR p x true) := by
  obtain ⟨hv, hsr⟩ := srtB_spec hs
  have hce : (x.1, (x.2.1, ())) = x := rfl
  unfold m_page_Insert
  rw [find_eq hp hs, hce]
  simp only [Option.bind_some]
  by_cases c1 : allowedS (G p 8 == 1) (keyI p x.1) x = 0
  · cases hi : isI p x.1 with
    | true =>
      have hE : putE p x true = 11 := by
        unfold putE
        rw [if_neg (by rw [hs]; decide), if_neg (by rw [c1]; decide), if_pos ⟨hi, rfl⟩]
      unfold putR
      rw [hE, c1]
      simp only [bne_self_eq_false, Bool.false_eq_true, if_false, if_true]; rfl
    | false =>
      have hE : putE p x true = if sumC (pairsS p) + costS x > 108 then 7 else 0 := by
        unfold putE
        have e0 : (if isI p x.1 = true then costS (pairOf p (keyI p x.1)) else 0) = 0 := if_neg (by rw [hi]; decide)
        rw [if_neg (by rw [hs]; decide), if_neg (by rw [c1]; decide), if_neg (by rw [hi]; simp), e0, Int.sub_zero]
      unfold putR
      rw [hE, c1]
      simp only [bne_self_eq_false, Bool.false_eq_true, if_false]
      rw [room_eq hp hs h1 h2 (old := 0) (by omega) (by omega), Int.sub_zero]
      by_cases c2 : sumC (pairsS p) + costS x > 108
      · rw [if_pos c2]
        have e7 : ((7 : Int) != 0) = true := rfl
        simp only [Option.bind_some, e7, if_true]; rfl
      · rw [if_neg c2]
        obtain ⟨a1, a2, a3, a4⟩ := allowed_spec c1
        have A := page_add hp hv (i := keyI p x.1) (key_le hp hs x.1) a3 a4 (by omega)
        have eP : putP p x = addS p (keyI p x.1) x := by unfold putP; rw [if_neg (by rw [hi]; decide)]
        rw [if_pos rfl, eP]
        simp only [Option.bind_some, bne_self_eq_false, Bool.false_eq_true, if_false, A]
  · have b1 : (allowedS (G p 8 == 1) (keyI p x.1) x != 0) = true := by simpa using c1
    have hE : putE p x true = allowedS (G p 8 == 1) (keyI p x.1) x := by
      unfold putE; rw [if_neg (by rw [hs]; decide), if_pos c1]
    unfold putR
    rw [hE, if_neg c1]
    simp only [b1, if_true]
/-- a slot that is put in place of another one -/
theorem replace_ok (hi : isI p x.1 = true) (ha : allowedS (G p 8 == 1) (keyI p x.1) x = 0) (hr : sumC (pairsS p) + costS x - costS (pairOf p (keyI p x.1)) ≤ 108) :
    PageOK (takeS p (keyI p x.1)) ∧ validB (takeS p (keyI p x.1)) = true ∧ keyI p x.1 ≤ count (takeS p (keyI p x.1)) ∧ sumC (pairsS (takeS p (keyI p x.1))) + costS x ≤ 108 ∧ pairsS (takeS p (keyI p x.1)) = (pairsS p).eraseIdx (keyI p x.1) ∧ G (takeS p (keyI p x.1)) 8 = G p 8 := by
  obtain ⟨hv, hsr⟩ := srtB_spec hs
  obtain ⟨hc, hc9⟩ := count_le hp hv
  have hl : (pairsS p).length = count p := pairsTo_length _ _
  obtain ⟨k1, k2⟩ := key_is hp hs hi
  obtain ⟨t1, t2, t3, t4, t5⟩ := take_facts hp hv k1
  have e : (pairsS p)[keyI p x.1]'(by omega) = pairOf p (keyI p x.1) := by simp [pairsS, pairsTo]
  have hs2 : sumC ((pairsS p).eraseIdx (keyI p x.1)) = sumC (pairsS p) - costS (pairOf p (keyI p x.1)) := by rw [sumC_eraseIdx (by omega), e]
  exact ⟨t1, t2, by unfold count; rw [t5]; omega, by rw [t3, hs2]; omega, t3, t4 8 (by omega) (by omega) (by omega)⟩
theorem Put_eq : m_page_Put p x.1 x.2.1 = some (putR p x false) := by
  obtain ⟨hv, hsr⟩ := srtB_spec hs
  have hce : (x.1, (x.2.1, ())) = x := rfl
  have hI := Insert_eq hp hs h1 h2
  obtain ⟨hc, hc9⟩ := count_le hp hv
  unfold m_page_Put
  rw [find_eq hp hs, hce]
  simp only [Option.bind_some]
  by_cases c1 : allowedS (G p 8 == 1) (keyI p x.1) x = 0
  · rw [c1]
    simp only [bne_self_eq_false, Bool.false_eq_true, if_false]
    cases hi : isI p x.1 with
    | false =>
      have e : putR p x true = putR p x false := by
        unfold putR putE; rw [hi]; simp
      simp only [Bool.not_false, if_true, hI, Option.bind_some, e]
    | true =>
      obtain ⟨k1, k2⟩ := key_is hp hs hi
      have hps := pairOf_size p (keyI p x.1)
      have hcr := costS_range (x := pairOf p (keyI p x.1)) ⟨by omega, by omega⟩
      obtain ⟨a1, a2, a3, a4⟩ := allowed_spec c1
      have hval : m_slot_Value p (keyI p x.1) = some ((pairOf p (keyI p x.1)).2.1, (0 : Int)) := by
        rw [slot_Value hp, hv, if_pos rfl, if_neg (by omega)]
      have hcost : m_slot_Cost x.1 (pairOf p (keyI p x.1)).2.1 = some (costS (pairOf p (keyI p x.1))) := by
        rw [slot_Cost (by omega) (by omega)]
        exact congrArg some (congrArg (fun y => costS (y, ((pairOf p (keyI p x.1)).2.1, ()))) k2.symm)
      have hroom := room_eq hp hs h1 h2 (old := costS (pairOf p (keyI p x.1))) (by omega) (by omega)
      have hE : putE p x false = if sumC (pairsS p) + costS x - costS (pairOf p (keyI p x.1)) > 108 then 7 else 0 := by
        unfold putE
        rw [if_neg (by rw [hs]; decide), if_neg (by rw [c1]; decide), if_neg (by simp), if_pos hi]
      simp only [Bool.not_true, Bool.false_eq_true, if_false, hval, Option.bind_some, bne_self_eq_false, hcost, hroom]
      unfold putR
      rw [hE]
      by_cases c2 : sumC (pairsS p) + costS x - costS (pairOf p (keyI p x.1)) > 108
      · rw [if_pos c2]
        have e7 : ((7 : Int) != 0) = true := rfl
        simp only [e7, if_true]; rfl
      · rw [if_neg c2, if_pos rfl]
        unfold putP
        rw [if_pos hi]
        have W0 := W_nonneg (x.1.size : Int)
        simp only [bne_self_eq_false, Bool.false_eq_true, if_false, keys_Words (show ((pairOf p (keyI p x.1)).2.1.size : Int) < 9223372036854775808 by omega), keys_Words (show (x.2.1.size : Int) < 9223372036854775808 by omega), keys_Words (show (x.1.size : Int) < 9223372036854775808 by omega), Option.bind_some]
        by_cases c3 : W (pairOf p (keyI p x.1)).2.1.size = W x.2.1.size
        · have c3' : (W (pairOf p (keyI p x.1)).2.1.size == W x.2.1.size) = true := by rw [c3]; simp
          obtain ⟨n1, n2, n3, n4, n5⟩ := over_nums hp hv k1 a4 c3
          obtain ⟨s, e1, e2, e3, e4⟩ := slot_is hp hv k1
          have E := over_eq hp hv k1 a4 c3
          have hw := hp.2.G (20 + (keyI p x.1 : Int))
          have hw' : sw p (keyI p x.1) = G p (20 + (keyI p x.1 : Int)) := rfl
          have hat : atS (sw p (keyI p x.1)) = sw p (keyI p x.1) / 65536 := rfl
          have hsh : shrI .u64 (G p (20 + (keyI p x.1 : Int))) 16 = atS (sw p (keyI p x.1)) := shr_u64 (by omega) _ _ (by decide) (by decide)
          have hmid : midS (sw p (keyI p x.1)) = atS (sw p (keyI p x.1)) + W (keyS (sw p (keyI p x.1))) := rfl
          rw [e3, k2] at hmid
          have w4 : IntKind.i64.wrap (20 + (keyI p x.1 : Int)) = 20 + (keyI p x.1 : Int) := wI (by omega) (by omega)
          have w5 : IntKind.i64.wrap (atS (sw p (keyI p x.1))) = atS (sw p (keyI p x.1)) := wI (by omega) (by omega)
          have w6 : IntKind.i64.wrap (atS (sw p (keyI p x.1)) + W x.1.size) = midS (sw p (keyI p x.1)) := by rw [wI (by omega) (by omega)]; omega
          have E' : List.set (splice p (midS (sw p (keyI p x.1))) (List.take (128 - midS (sw p (keyI p x.1))).toNat (packS x.2.1))) (20 + (keyI p x.1 : Int)).toNat (bor .u64 (bandn .u64 (G p (20 + (keyI p x.1 : Int))) 255) (IntKind.u64.wrap (x.2.1.size : Int))) = overS p (keyI p x.1) x.2.1 := E
          simp only [c3', if_true, keys_Pack, a4, Option.bind_some, bne_self_eq_false, Bool.false_eq_true, if_false, w4, show (0 : Int) ≤ 20 + (keyI p x.1 : Int) by omega, show 20 + (keyI p x.1 : Int) < 128 by omega, rd_G, hsh, w5, w6, show (0 : Int) ≤ midS (sw p (keyI p x.1)) by omega, show midS (sw p (keyI p x.1)) ≤ 128 by omega, E', c3, beq_self_eq_true]
        · have c3' : (W (pairOf p (keyI p x.1)).2.1.size == W x.2.1.size) = false := by simpa using c3
          obtain ⟨t1, t2, t3, t4, _⟩ := replace_ok hp hs h1 h2 hi c1 (by omega)
          have T := page_take hp hv k1
          have A := page_add t1 t2 t3 a3 a4 t4
          simp only [c3', Bool.false_eq_true, if_false, T, A, Option.bind_some, bne_self_eq_false, c3]
  · have b1 : (allowedS (G p 8 == 1) (keyI p x.1) x != 0) = true := by simpa using c1
    have hE : putE p x false = allowedS (G p 8 == 1) (keyI p x.1) x := by
      unfold putE; rw [if_neg (by rw [hs]; decide), if_pos c1]
    unfold putR
    rw [hE, if_neg c1]
    simp only [b1, if_true]
theorem refPut_eq (absent : Bool) : m_ticketlineref16_Put p x absent = some (putR p x absent) := by
  obtain ⟨hv, hsr⟩ := srtB_spec hs
  obtain ⟨hc, hc9⟩ := count_le hp hv
  have h108 := sum_108 hp hv
  have hl : (pairsS p).length = count p := pairsTo_length _ _
  have hsm := pairsTo_small (p := p) (n := count p) (by omega)
  have n := sumC_nonneg (l := pairsS p) hsm.2
  have hcr := costS_range (x := x) ⟨h1, h2⟩
  have hb : badS p = 0 := by have := badS_zero (p := p); rw [hs] at this; simpa using this
  have hkI : ((posS x.1 (pairsS p) : Nat) : Int) = (keyI p x.1 : Int) := rfl
  have hiI : isS x.1 (pairsS p) = isI p x.1 := rfl
  unfold m_ticketlineref16_Put m_ticketlineref16_Put_a
  rw [ref15_Bad hp, hb]
  simp only [Option.bind_some, bne_self_eq_false, Bool.false_eq_true, if_false, ref_Pairs hp hv, ref15_Find x.1 (pairsS p) (by omega), hkI, hiI, ref16_Allowed, rd_G]
  by_cases c1 : allowedS (G p 8 == 1) (keyI p x.1) x = 0
  · have w1 : IntKind.i64.wrap (sumC (pairsS p) + costS x) = sumC (pairsS p) + costS x := wI (by omega) (by omega)
    have hS : m_ticketlineref14_Sum (pairsS p) = some (sumC (pairsS p)) := ref_Sum hsm
    have hC := ref_Cost (x := x) (by omega) (by omega)
    obtain ⟨a1, a2, a3, a4⟩ := allowed_spec c1
    simp only [c1, bne_self_eq_false, Bool.false_eq_true, if_false]
    cases hi : isI p x.1 with
    | false =>
      have hA := ref16_Add hp hv (i := keyI p x.1) (key_le hp hs x.1) a3 a4
      have hE : putE p x absent = if sumC (pairsS p) + costS x > 108 then 7 else 0 := by
        unfold putE
        have e0 : (if isI p x.1 = true then costS (pairOf p (keyI p x.1)) else 0) = 0 := if_neg (by rw [hi]; decide)
        rw [if_neg (by rw [hs]; decide), if_neg (by rw [c1]; decide), if_neg (by rw [hi]; simp), e0, Int.sub_zero]
      have eP : putP p x = addS p (keyI p x.1) x := by unfold putP; rw [if_neg (by rw [hi]; decide)]
      unfold putR
      rw [hE, eP]
      simp only [Bool.false_eq_true, if_false, hS, hC, Option.bind_some, w1]
      by_cases c2 : sumC (pairsS p) + costS x > 108
      · rw [if_pos c2]
        simp only [c2, decide_true, if_true]; rfl
      · rw [if_neg c2]
        simp only [c2, decide_false, Bool.false_eq_true, if_false, hA (by omega), Option.bind_some, if_true]
    | true =>
      obtain ⟨k1, k2⟩ := key_is hp hs hi
      have hps := pairOf_size p (keyI p x.1)
      have hcr2 := costS_range (x := pairOf p (keyI p x.1)) ⟨by omega, by omega⟩
      have hgp : GP (pairsS p) (keyI p x.1 : Int) = pairOf p (keyI p x.1) := GP_pairs (by omega) (by omega)
      have hce : ((pairOf p (keyI p x.1)).1, ((pairOf p (keyI p x.1)).2.1, ())) = pairOf p (keyI p x.1) := rfl
      have hC2 := ref_Cost (x := pairOf p (keyI p x.1)) (by omega) (by omega)
      have w2 : IntKind.i64.wrap (sumC (pairsS p) + costS x - costS (pairOf p (keyI p x.1))) = sumC (pairsS p) + costS x - costS (pairOf p (keyI p x.1)) := wI (by omega) (by omega)
      have hlt : (keyI p x.1 : Int) < ((pairsS p).length : Int) := by omega
      cases absent with
      | true =>
        have hE : putE p x true = 11 := by
          unfold putE
          rw [if_neg (by rw [hs]; decide), if_neg (by rw [c1]; decide), if_pos ⟨hi, rfl⟩]
        unfold putR
        rw [hE]
        simp only [if_true]; rfl
      | false =>
        have hE : putE p x false = if sumC (pairsS p) + costS x - costS (pairOf p (keyI p x.1)) > 108 then 7 else 0 := by
          unfold putE
          rw [if_neg (by rw [hs]; decide), if_neg (by rw [c1]; decide), if_neg (by simp), if_pos hi]
        unfold putR
        rw [hE]
        simp only [if_true, Bool.false_eq_true, if_false, hS, hC, Option.bind_some, w1, Int.natCast_nonneg, hlt, rd_GP, hgp, hce, hC2, w2]
        by_cases c2 : sumC (pairsS p) + costS x - costS (pairOf p (keyI p x.1)) > 108
        · rw [if_pos c2]
          simp only [c2, decide_true, if_true]; rfl
        · rw [if_neg c2, if_pos rfl]
          unfold putP
          rw [if_pos hi]
          simp only [c2, decide_false, Bool.false_eq_true, if_false, ref14_Words (n := ((pairOf p (keyI p x.1)).2.1.size : Int)) (by omega) (by omega), ref14_Words (n := (x.2.1.size : Int)) (by omega) (by omega), Option.bind_some]
          by_cases c3 : W (pairOf p (keyI p x.1)).2.1.size = W x.2.1.size
          · have c3' : (W (pairOf p (keyI p x.1)).2.1.size == W x.2.1.size) = true := by rw [c3]; simp
            have w4 : IntKind.i64.wrap (20 + (keyI p x.1 : Int)) = 20 + (keyI p x.1 : Int) := wI (by omega) (by omega)
            have hw := hp.2.G (20 + (keyI p x.1 : Int))
            have hw' : G p (20 + (keyI p x.1 : Int)) = sw p (keyI p x.1) := rfl
            have hsz := (valid_good hp hv k1).sized
            have hSl := ref_SlotOf hw.1 hw.2
            rw [hw', if_pos hsz.at1] at hSl
            have hPk : m_ticketlineref14_Pack x.2.1 = some (packS x.2.1) := ref_Pack (by omega)
            have L := refPut_l0 hp hv k1 a4 c3 x.1 (List.replicate 128 0) (packS x.2.1).length FUEL FUEL 0 p (by omega) (by have := FUEL_big; have := rec_len x; have := W_le (n := (x.2.1.size : Int)) (by omega); rw [packS_length]; omega) hp.1 (fun j _ _ => by rw [if_neg (by omega)])
            have L : m_ticketlineref16_Put_l0 FUEL FUEL (keyI p x.1) 0 p x.1 x.2.1 (List.replicate 128 0) (atS (sw p (keyI p x.1))) (keyS (sw p (keyI p x.1))) (valS (sw p (keyI p x.1))) (packS x.2.1) = _ := L
            simp only [c3', if_true, w4, show (0 : Int) ≤ 20 + (keyI p x.1 : Int) by omega, show 20 + (keyI p x.1 : Int) < 128 by omega, hw', hSl, hPk, Option.bind_some, L, c3, beq_self_eq_true]
          · have c3' : (W (pairOf p (keyI p x.1)).2.1.size == W x.2.1.size) = false := by simpa using c3
            obtain ⟨t1, t2, t3, t4, _⟩ := replace_ok hp hs h1 h2 hi c1 (by omega)
            have T := ref16_Take hp hv k1
            have A := ref16_Add t1 t2 t3 a3 a4 t4
            simp only [c3', Bool.false_eq_true, if_false, T, A, Option.bind_some, c3]
  · have b1 : (allowedS (G p 8 == 1) (keyI p x.1) x != 0) = true := by simpa using c1
    have hE : putE p x absent = allowedS (G p 8 == 1) (keyI p x.1) x := by
      unfold putE; rw [if_neg (by rw [hs]; decide), if_pos c1]
    unfold putR
    rw [hE, if_neg c1]
    simp only [b1, if_true]
end
theorem putR_bad {p : List Int} (hs : srtB p = false) (x : Pr) (absent : Bool) : putR p x absent = (List.replicate 128 0, badS p) := by
  have hE : putE p x absent = badS p := by unfold putE; rw [if_pos hs]
  unfold putR
  rw [hE, if_neg (badS_ne hs)]
theorem find_bad {p : List Int} (hp : PageOK p) (hs : srtB p = false) (key v : ByteArray) : m_page_find p key v = some (0, false, badS p) := by
  unfold m_page_find
  rw [search_Find hp, hs]
  simp only [Bool.false_eq_true, if_false, Option.bind_some, badS_bne hs, if_true]
/-- what inserting, putting and the reference give -/
theorem puts_eq {p : List Int} (hp : PageOK p) {x : Pr} (h1 : x.1.size ≤ 1000) (h2 : x.2.1.size ≤ 1000) : m_page_Insert p x.1 x.2.1 = some (putR p x true) ∧ m_page_Put p x.1 x.2.1 = some (putR p x false) ∧ ∀ absent, m_ticketlineref16_Put p x absent = some (putR p x absent) := by
  cases hs : srtB p with
  | true => exact ⟨Insert_eq hp hs h1 h2, Put_eq hp hs h1 h2, refPut_eq hp hs h1 h2⟩
  | false =>
    refine ⟨?_, ?_, fun absent => ?_⟩
    · unfold m_page_Insert
      rw [find_bad hp hs, putR_bad hs]
      simp only [Option.bind_some, badS_bne hs, if_true]
    · unfold m_page_Put
      rw [find_bad hp hs, putR_bad hs]
      simp only [Option.bind_some, badS_bne hs, if_true]
    · unfold m_ticketlineref16_Put m_ticketlineref16_Put_a
      rw [ref15_Bad hp, putR_bad hs]
      simp only [Option.bind_some, badS_bne hs, if_true]

def remE (p : List Int) (key : ByteArray) : Int := if srtB p = false then badS p else if key = eB ∧ G p 8 = 1 then 2 else if 24 < key.size then 5 else if isI p key = false then 9 else 0
def remR (p : List Int) (key : ByteArray) : List Int × ByteArray × Int := if remE p key = 0 then (takeS p (keyI p key), (pairOf p (keyI p key)).2.1, 0) else (List.replicate 128 0, eB, remE p key)
theorem removes_eq {p : List Int} (hp : PageOK p) (key : ByteArray) : m_page_Remove p key = some (remR p key) ∧ m_ticketlineref16_Remove p key = some (remR p key) := by
  cases hs : srtB p with
  | false =>
    have hR : remR p key = (List.replicate 128 0, eB, badS p) := by
      have hE : remE p key = badS p := by unfold remE; rw [if_pos hs]
      unfold remR; rw [hE, if_neg (badS_ne hs)]
    rw [hR]
    constructor
    · unfold m_page_Remove
      rw [search_Find hp, hs]
      simp only [Bool.false_eq_true, if_false, Option.bind_some, badS_bne hs, if_true]
    · unfold m_ticketlineref16_Remove
      rw [ref15_Bad hp]
      simp only [Option.bind_some, badS_bne hs, if_true]
  | true =>
    obtain ⟨hv, hsr⟩ := srtB_spec hs
    obtain ⟨hc, hc9⟩ := count_le hp hv
    have hl : (pairsS p).length = count p := pairsTo_length _ _
    have hb : badS p = 0 := by have := badS_zero (p := p); rw [hs] at this; simpa using this
    have hkI : ((posS key (pairsS p) : Nat) : Int) = (keyI p key : Int) := rfl
    have hiI : isS key (pairsS p) = isI p key := rfl
    have hF := ref15_Find key (pairsS p) (by omega)
    rw [hkI, hiI] at hF
    have hf := search_Find hp key
    rw [hs, if_pos rfl, hkI, hiI] at hf
    have lv : m_slot_Level p = some (G p 8 - 1) := by rw [slot_Level hp, hv, if_pos rfl]
    have tail : isI p key = true → remE p key = 0 → remR p key = (takeS p (keyI p key), (pairOf p (keyI p key)).2.1, 0) ∧ m_slot_Value p (keyI p key) = some ((pairOf p (keyI p key)).2.1, (0 : Int)) ∧ m_page_take p (keyI p key) = some (takeS p (keyI p key)) ∧ m_ticketlineref16_Take p (keyI p key) = some (takeS p (keyI p key)) ∧ GP (pairsS p) (keyI p key : Int) = pairOf p (keyI p key) ∧ (keyI p key : Int) < ((pairsS p).length : Int) := by
      intro hi hE
      obtain ⟨k1, k2⟩ := key_is hp hs hi
      exact ⟨by unfold remR; rw [if_pos hE], by rw [slot_Value hp, hv, if_pos rfl, if_neg (by omega)], page_take hp hv k1, ref16_Take hp hv k1, GP_pairs (by omega) (by omega), by omega⟩
    have e8 : ((G p 8 - 1 == 0) : Bool) = (G p 8 == 1) := by
      rw [Bool.eq_iff_iff, beq_iff_eq, beq_iff_eq]; omega
    by_cases ce : key = eB
    · by_cases c8 : G p 8 = 1
      · have hE : remE p key = 2 := by unfold remE; rw [if_neg (by rw [hs]; decide), if_pos ⟨ce, c8⟩]
        have hR : remR p key = (List.replicate 128 0, eB, 2) := by unfold remR; rw [hE, if_neg (by decide)]
        rw [hR]
        have c8' : (G p 8 == 1) = true := by simpa using c8
        have se : strEq key eB = true := strEq_iff.2 ce
        constructor
        · unfold m_page_Remove
          simp only [hf, Option.bind_some, bne_self_eq_false, Bool.false_eq_true, if_false, se, if_true, lv, e8, c8']
        · unfold m_ticketlineref16_Remove
          simp only [ref15_Bad hp, hb, Option.bind_some, bne_self_eq_false, Bool.false_eq_true, if_false, ref_Pairs hp hv, hF, se, if_true, rd_G, c8']
      · have c8' : (G p 8 == 1) = false := by simpa using c8
        have se : strEq key eB = true := strEq_iff.2 ce
        have hsz : ¬ (key.size : Int) > 24 := by rw [ce]; decide
        cases hi : isI p key with
        | false =>
          have hE : remE p key = 9 := by unfold remE; rw [if_neg (by rw [hs]; decide), if_neg (fun h => c8 h.2), if_neg (by omega), if_pos hi]
          have hR : remR p key = (List.replicate 128 0, eB, 9) := by unfold remR; rw [hE, if_neg (by decide)]
          rw [hR]
          rw [hi] at hf hF
          constructor
          · unfold m_page_Remove
            simp only [hf, Option.bind_some, bne_self_eq_false, Bool.false_eq_true, if_false, se, if_true, lv, e8, c8', hsz, decide_false, Bool.not_false]
          · unfold m_ticketlineref16_Remove
            simp only [ref15_Bad hp, hb, Option.bind_some, bne_self_eq_false, Bool.false_eq_true, if_false, ref_Pairs hp hv, hF, se, if_true, rd_G, c8', hsz, decide_false, Bool.not_false]
        | true =>
          have hE : remE p key = 0 := by unfold remE; rw [if_neg (by rw [hs]; decide), if_neg (fun h => c8 h.2), if_neg (by omega), if_neg (by rw [hi]; decide)]
          obtain ⟨t1, t2, t3, t4, t5, t6⟩ := tail hi hE
          rw [t1]
          rw [hi] at hf hF
          constructor
          · unfold m_page_Remove
            simp only [hf, Option.bind_some, bne_self_eq_false, Bool.false_eq_true, if_false, se, if_true, lv, e8, c8', hsz, decide_false, Bool.not_true, t2, t3]
          · unfold m_ticketlineref16_Remove
            simp only [ref15_Bad hp, hb, Option.bind_some, bne_self_eq_false, Bool.false_eq_true, if_false, ref_Pairs hp hv, hF, se, if_true, rd_G, c8', hsz, decide_false, Bool.not_true, t4, Int.natCast_nonneg, t6, rd_GP, t5]
    · have se : strEq key eB = false := strEq_false ce
      by_cases c5 : 24 < key.size
      · have hE : remE p key = 5 := by unfold remE; rw [if_neg (by rw [hs]; decide), if_neg (fun h => ce h.1), if_pos c5]
        have hR : remR p key = (List.replicate 128 0, eB, 5) := by unfold remR; rw [hE, if_neg (by decide)]
        rw [hR]
        have hsz : (key.size : Int) > 24 := by omega
        constructor
        · unfold m_page_Remove
          simp only [hf, Option.bind_some, bne_self_eq_false, Bool.false_eq_true, if_false, se, hsz, decide_true, if_true]
        · unfold m_ticketlineref16_Remove
          simp only [ref15_Bad hp, hb, Option.bind_some, bne_self_eq_false, Bool.false_eq_true, if_false, ref_Pairs hp hv, hF, se, hsz, decide_true, if_true]
      · have hsz : ¬ (key.size : Int) > 24 := by omega
        cases hi : isI p key with
        | false =>
          have hE : remE p key = 9 := by unfold remE; rw [if_neg (by rw [hs]; decide), if_neg (fun h => ce h.1), if_neg (by omega), if_pos hi]
          have hR : remR p key = (List.replicate 128 0, eB, 9) := by unfold remR; rw [hE, if_neg (by decide)]
          rw [hR]
          rw [hi] at hf hF
          constructor
          · unfold m_page_Remove
            simp only [hf, Option.bind_some, bne_self_eq_false, Bool.false_eq_true, if_false, se, hsz, decide_false, Bool.not_false, if_true]
          · unfold m_ticketlineref16_Remove
            simp only [ref15_Bad hp, hb, Option.bind_some, bne_self_eq_false, Bool.false_eq_true, if_false, ref_Pairs hp hv, hF, se, hsz, decide_false, Bool.not_false, if_true]
        | true =>
          have hE : remE p key = 0 := by unfold remE; rw [if_neg (by rw [hs]; decide), if_neg (fun h => ce h.1), if_neg (by omega), if_neg (by rw [hi]; decide)]
          obtain ⟨t1, t2, t3, t4, t5, t6⟩ := tail hi hE
          rw [t1]
          rw [hi] at hf hF
          constructor
          · unfold m_page_Remove
            simp only [hf, Option.bind_some, bne_self_eq_false, Bool.false_eq_true, if_false, se, hsz, decide_false, Bool.not_true, t2, t3]
          · unfold m_ticketlineref16_Remove
            simp only [ref15_Bad hp, hb, Option.bind_some, bne_self_eq_false, Bool.false_eq_true, if_false, ref_Pairs hp hv, hF, se, hsz, decide_false, Bool.not_true, t4, Int.natCast_nonneg, t6, rd_GP, t5, if_true]

theorem inserts16 {p q : List Int} {k v : ByteArray} {e : Int} (h : m_page_Insert p k v = some (q, e)) : m_ticketlinelaw16_inserts p k v q e = some true := by
  unfold m_ticketlinelaw16_inserts; rw [h]; simp only [Option.bind_some, beq_refl_page, if_true, beq_self_eq_true]
theorem puts16 {p q : List Int} {k v : ByteArray} {e : Int} (h : m_page_Put p k v = some (q, e)) : m_ticketlinelaw16_puts p k v q e = some true := by
  unfold m_ticketlinelaw16_puts; rw [h]; simp only [Option.bind_some, beq_refl_page, if_true, beq_self_eq_true]
theorem removes16 {p q : List Int} {k v : ByteArray} {e : Int} (h : m_page_Remove p k = some (q, v, e)) : m_ticketlinelaw16_removes p k q v e = some true := by
  unfold m_ticketlinelaw16_removes; rw [h]; simp only [Option.bind_some, beq_refl_page, if_true, strEq_refl, beq_self_eq_true]
theorem made16 {l : List Pr} {level next e : Int} {lo hi : ByteArray} {q : List Int} (h : m_page_Of level lo hi next l = some (q, e)) : m_ticketlinelaw16_made level lo hi next l q e = some true := by
  unfold m_ticketlinelaw16_made; rw [h]; simp only [Option.bind_some, beq_refl_page, if_true, beq_self_eq_true]
theorem number16 {n e : Int} {s : ByteArray} (h : m_page_Number n = some (s, e)) : m_ticketlinelaw16_number n s e = some true := by
  unfold m_ticketlinelaw16_number; rw [h]; simp only [Option.bind_some, strEq_refl, if_true, beq_self_eq_true]
theorem right16 {p : List Int} (hp : PageOK p) {x : Pr} (h1 : x.1.size ≤ 1000) (h2 : x.2.1.size ≤ 1000) : m_ticketlinelaw16_right p x = some true := by
  obtain ⟨a1, a2, a3⟩ := puts_eq hp h1 h2
  obtain ⟨b1, b2⟩ := removes_eq hp x.1
  have i1 := inserts16 (q := (putR p x true).1) (e := (putR p x true).2) a1
  have i2 := puts16 (q := (putR p x false).1) (e := (putR p x false).2) a2
  have i3 := removes16 (q := (remR p x.1).1) (v := (remR p x.1).2.1) (e := (remR p x.1).2.2) b1
  unfold m_ticketlinelaw16_right
  simp only [a3, b2, Option.bind_some, i1, i2, i3, Bool.not_true, Bool.false_eq_true, if_false, page_Compact hp, ref_Valid hp]
  cases hv : validB p with
  | false => simp only [Bool.not_false, if_true, Bool.false_eq_true, if_false, beq_refl_page, beq_self_eq_true]
  | true => simp only [Bool.not_true, Bool.false_eq_true, if_false, if_true, ref16_Compact' hp hv, Option.bind_some, beq_refl_page, beq_self_eq_true]
theorem pageChanges_true {x : Pln} (h : PlnOK x) (key value : ByteArray) : m_ticketlinelaw16_PageChanges x key value = some true := by
  obtain ⟨p, b, h1, h2, h3⟩ := plan_page h
  unfold m_ticketlinelaw16_PageChanges
  rw [h1]
  simp only [Option.bind_some, known16]
  cases b with
  | false => simp only [Bool.not_false, if_true]
  | true =>
    by_cases c1 : (key.size : Int) > 60
    · simp only [Bool.not_true, Bool.false_eq_true, if_false, c1, decide_true, if_true]
    by_cases c2 : (value.size : Int) > 60
    · simp only [Bool.not_true, Bool.false_eq_true, if_false, c1, c2, decide_true, decide_false, if_true]
    have R := right16 h2 (x := (key, (value, ()))) (show key.size ≤ 1000 by omega) (show value.size ≤ 1000 by omega)
    simp only [Bool.not_true, Bool.false_eq_true, if_false, c1, c2, decide_false, R, Option.bind_some, if_true]
theorem pageOf_l0 {l : List Pr} (hlen : l.length ≤ 60) (level next : Int) (lo hi : ByteArray) : ∀ (m n N i : Nat), i + m = l.length → m < n → (∀ j : Nat, j < i → (GP l j).1.size ≤ 60 ∧ (GP l j).2.1.size ≤ 60) → m_ticketlinelaw16_PageOf_l0 N n level lo hi next l i = some true := by
  intro m
  induction m with
  | zero =>
    intro n N i hm hn hj
    obtain ⟨n, rfl⟩ : ∃ q, n = q + 1 := ⟨n - 1, by omega⟩
    have hsm : SmallL l := by
      refine ⟨by omega, fun x hx => ?_⟩
      obtain ⟨j, hjl, rfl⟩ := List.getElem_of_mem hx
      have := hj j (by omega)
      rw [GP_get hjl] at this
      omega
    have hf : fits l.length 32 := by unfold fits; omega
    have hO := page_Of level lo hi next hsm
    have hM := made16 (q := (if ofE level lo hi next l = 0 then (ofS level lo hi next l, (0 : Int)) else (List.replicate 128 0, ofE level lo hi next l)).1) (e := (if ofE level lo hi next l = 0 then (ofS level lo hi next l, (0 : Int)) else (List.replicate 128 0, ofE level lo hi next l)).2) hO
    simp only [m_ticketlinelaw16_PageOf_l0, m_ticketlinelaw16_PageOf_l0_b, show ¬ (i : Int) < (l.length : Int) by omega, decide_false, Bool.false_eq_true, if_false, hf, if_true, ref16_Of level lo hi next hsm, Option.bind_some, hM, same_refl l (by omega), known16]
  | succ m ih =>
    intro n N i hm hn hj
    obtain ⟨n, rfl⟩ : ∃ q, n = q + 1 := ⟨n - 1, by omega⟩
    have w1 : IntKind.i64.wrap ((i : Int) + 1) = ((i + 1 : Nat) : Int) := by rw [wI (by omega) (by omega)]; omega
    simp only [m_ticketlinelaw16_PageOf_l0, m_ticketlinelaw16_PageOf_l0_b, show (i : Int) < (l.length : Int) by omega, decide_true, if_true, Int.natCast_nonneg, rd_GP, w1, known16, Option.bind_some]
    by_cases c1 : ((GP l i).1.size : Int) > 60
    · simp only [c1, decide_true, if_true]
    by_cases c2 : ((GP l i).2.1.size : Int) > 60
    · simp only [c1, c2, decide_true, if_true, decide_false, Bool.false_eq_true, if_false]
    simp only [c1, c2, decide_false, Bool.false_eq_true, if_false]
    refine ih n N (i + 1) (by omega) (by omega) fun j hj' => ?_
    by_cases e : j = i
    · subst e; omega
    · exact hj j (by omega)
theorem pageOf_true (level : Int) (lo hi : ByteArray) (next : Int) (l : List Pr) : m_ticketlinelaw16_PageOf level lo hi next l = some true := by
  unfold m_ticketlinelaw16_PageOf m_ticketlinelaw16_PageOf_a
  by_cases c1 : (lo.size : Int) > 60
  · simp only [c1, decide_true, if_true, known16, Option.bind_some]
  by_cases c2 : (hi.size : Int) > 60
  · simp only [c1, c2, decide_true, if_true, decide_false, Bool.false_eq_true, if_false, known16, Option.bind_some]
  by_cases c3 : (l.length : Int) > 60
  · simp only [c1, c2, c3, decide_true, if_true, decide_false, Bool.false_eq_true, if_false, known16, Option.bind_some]
  simp only [c1, c2, c3, decide_false, Bool.false_eq_true, if_false]
  exact pageOf_l0 (by omega) level next lo hi l.length FUEL FUEL 0 (by omega) (by have := FUEL_big; omega) (fun j hj => by omega)
theorem pageNumbers_true (n : Int) : m_ticketlinelaw16_PageNumbers n = some true := by
  unfold m_ticketlinelaw16_PageNumbers
  have hN := page_Number n
  by_cases c1 : n < 1
  · rw [if_pos (.inl c1)] at hN
    simp only [c1, decide_true, if_true, number16 hN, Option.bind_some, known16]
  by_cases c2 : n > 511
  · rw [if_pos (.inr c2)] at hN
    simp only [c1, c2, decide_true, if_true, decide_false, Bool.false_eq_true, if_false, number16 hN, Option.bind_some, known16]
  rw [if_neg (by omega)] at hN
  simp only [c1, c2, decide_false, Bool.false_eq_true, if_false, ref16_Number (n := n) (by omega) (by omega), number16 hN, Option.bind_some, if_true, known16]
end Go.Ev.L
