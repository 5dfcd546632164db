/- A part of the proof of a statement of this seat: the plain models of the functions. No condition. -/
import Derived.Test.YthbmjicmhikpgaaM14
set_option linter.unusedVariables false
namespace Go.Ev.M
open Go Go.Ev
def m_search_sorted_l0_b (s0 : (Int → (List (ByteArray × (ByteArray × Unit))) → Option ((List (ByteArray × (ByteArray × Unit))) × Int))) (u0_0 : Int) (u0_1 : (List (ByteArray × (ByteArray × Unit)))) : Option ((List (ByteArray × (ByteArray × Unit))) × Int) :=
  if (decide (u0_0 < (u0_1.length : Int))) = true then
    let v5 := (IntKind.i64.wrap (u0_0 - (1 : Int)))
    if (0 : Int) ≤ v5 then
      if v5 < (u0_1.length : Int) then
        if (0 : Int) ≤ u0_0 then
          if u0_0 < (u0_1.length : Int) then
            Option.bind (m_keys_Compare ((rd (.pair .str (.pair .str .nl)) u0_1 v5).1) ((rd (.pair .str (.pair .str .nl)) u0_1 u0_0).1)) fun r8 =>
            if (decide (r8 ≥ (0 : Int))) = true then
              some (([] : List (ByteArray × (ByteArray × Unit))), (13 : Int))
            else
              s0 (IntKind.i64.wrap (u0_0 + (1 : Int))) u0_1
          else none
        else none
      else none
    else none
  else
    some (u0_1, (0 : Int))
def m_search_sorted_l0 (N : Nat) : Nat → Int → (List (ByteArray × (ByteArray × Unit))) → Option ((List (ByteArray × (ByteArray × Unit))) × Int)
  | 0, _, _ => none
  | n + 1, u0_0, u0_1 => m_search_sorted_l0_b (m_search_sorted_l0 N n) u0_0 u0_1
def m_search_sorted_a (l0 : (Int → (List (ByteArray × (ByteArray × Unit))) → Option ((List (ByteArray × (ByteArray × Unit))) × Int))) (x0 : (List Int)) : Option ((List (ByteArray × (ByteArray × Unit))) × Int) :=
  Option.bind (m_slot_Pairs x0) fun r1 =>
  if (r1.2 != (0 : Int)) = true then
    some (([] : List (ByteArray × (ByteArray × Unit))), r1.2)
  else
    l0 (1 : Int) r1.1
def m_search_sorted (x0 : (List Int)) : Option ((List (ByteArray × (ByteArray × Unit))) × Int) := m_search_sorted_a (m_search_sorted_l0 FUEL FUEL) x0
def m_search_place_l0_b (s0 : ((List (ByteArray × (ByteArray × Unit))) → ByteArray → Int → Int → Bool → Option (Int × Bool))) (u0_0 : (List (ByteArray × (ByteArray × Unit)))) (u0_1 : ByteArray) (u0_2 : Int) (u0_3 : Int) (u0_4 : Bool) : Option (Int × Bool) :=
  if (decide (u0_2 < u0_3)) = true then
    let v4 := (IntKind.i64.wrap (Int.tdiv (IntKind.i64.wrap (u0_2 + u0_3)) (2 : Int)))
    if (0 : Int) ≤ v4 then
      if v4 < (u0_0.length : Int) then
        Option.bind (m_keys_Compare (rd (.pair .str (.pair .str .nl)) u0_0 v4).1 u0_1) fun r6 =>
        if (r6 == (-1 : Int)) = true then
          s0 u0_0 u0_1 (IntKind.i64.wrap (v4 + (1 : Int))) u0_3 u0_4
        else
          if (r6 == (1 : Int)) = true then
            s0 u0_0 u0_1 u0_2 v4 u0_4
          else
            some (v4, true)
      else none
    else none
  else
    some (u0_2, u0_4)
def m_search_place_l0 (N : Nat) : Nat → (List (ByteArray × (ByteArray × Unit))) → ByteArray → Int → Int → Bool → Option (Int × Bool)
  | 0, _, _, _, _, _ => none
  | n + 1, u0_0, u0_1, u0_2, u0_3, u0_4 => m_search_place_l0_b (m_search_place_l0 N n) u0_0 u0_1 u0_2 u0_3 u0_4
def m_search_place_a (l0 : ((List (ByteArray × (ByteArray × Unit))) → ByteArray → Int → Int → Bool → Option (Int × Bool))) (x0 : (List (ByteArray × (ByteArray × Unit)))) (x1 : ByteArray) : Option (Int × Bool) :=
  l0 x0 x1 (0 : Int) (x0.length : Int) false
def m_search_place (x0 : (List (ByteArray × (ByteArray × Unit)))) (x1 : ByteArray) : Option (Int × Bool) := m_search_place_a (m_search_place_l0 FUEL FUEL) x0 x1
def m_search_Range (x0 : (List Int)) (x1 : ByteArray) (x2 : ByteArray) : Option (Int × Int × Int) :=
  Option.bind (m_search_sorted x0) fun r1 =>
  if (r1.2 != (0 : Int)) = true then
    some ((0 : Int), (0 : Int), r1.2)
  else
    Option.bind (m_search_place r1.1 x1) fun r3 =>
    if (!strEq x2 (⟨#[]⟩ : ByteArray)) = true then
      Option.bind (m_search_place r1.1 x2) fun r6 =>
      some (r3.1, (mx r3.1 r6.1), (0 : Int))
    else
      some (r3.1, (mx r3.1 (r1.1.length : Int)), (0 : Int))
def m_ticketlinelaw15_ranges (x0 : (List Int)) (x1 : ByteArray) (x2 : ByteArray) (x3 : Int) (x4 : Int) (x5 : Int) : Option Bool :=
  Option.bind (m_search_Range x0 x1 x2) fun r1 =>
  if (r1.1 == x3) = true then
    if (r1.2.1 == x4) = true then
      some (r1.2.2 == x5)
    else
      some false
  else
    some false
def m_search_Sorted (x0 : (List Int)) : Option Bool :=
  Option.bind (m_search_sorted x0) fun r1 =>
  some (r1.2 == (0 : Int))
def m_search_Find (x0 : (List Int)) (x1 : ByteArray) : Option (Int × Bool × Int) :=
  Option.bind (m_search_sorted x0) fun r1 =>
  if (r1.2 != (0 : Int)) = true then
    some ((0 : Int), false, r1.2)
  else
    Option.bind (m_search_place r1.1 x1) fun r3 =>
    some (r3.1, r3.2, (0 : Int))
def m_ticketlinelaw15_finds (x0 : (List Int)) (x1 : ByteArray) (x2 : Int) (x3 : Bool) (x4 : Int) : Option Bool :=
  Option.bind (m_search_Find x0 x1) fun r1 =>
  if (r1.1 == x2) = true then
    if (r1.2.1 == x3) = true then
      some (r1.2.2 == x4)
    else
      some false
  else
    some false
def m_search_Get (x0 : (List Int)) (x1 : ByteArray) : Option (ByteArray × Int) :=
  Option.bind (m_search_Find x0 x1) fun r1 =>
  if (r1.2.2 != (0 : Int)) = true then
    some ((⟨#[]⟩ : ByteArray), r1.2.2)
  else
    Option.bind (m_slot_Level x0) fun r3 =>
    if (r3 != (0 : Int)) = true then
      some ((⟨#[]⟩ : ByteArray), (8 : Int))
    else
      if (!r1.2.1) = true then
        some ((⟨#[]⟩ : ByteArray), (9 : Int))
      else
        Option.bind (m_slot_Value x0 r1.1) fun r5 =>
        some (r5.1, r5.2)
def m_ticketlinelaw15_gets (x0 : (List Int)) (x1 : ByteArray) (x2 : ByteArray) (x3 : Int) : Option Bool :=
  Option.bind (m_search_Get x0 x1) fun r1 =>
  if (strEq r1.1 x2) = true then
    some (r1.2 == x3)
  else
    some false
def m_search_Down (x0 : (List Int)) (x1 : ByteArray) : Option (Int × Int × Int) :=
  Option.bind (m_search_Find x0 x1) fun r1 =>
  if (r1.2.2 != (0 : Int)) = true then
    some ((0 : Int), (0 : Int), r1.2.2)
  else
    Option.bind (m_slot_Level x0) fun r3 =>
    if (r3 == (0 : Int)) = true then
      some ((0 : Int), (0 : Int), (8 : Int))
    else
      if (!r1.2.1) = true then
        let v5 := (IntKind.i64.wrap (r1.1 - (1 : Int)))
        if (decide (v5 < (0 : Int))) = true then
          some ((0 : Int), (0 : Int), (9 : Int))
        else
          Option.bind (m_slot_Child x0 v5) fun r7 =>
          some (v5, r7.1, r7.2)
      else
        if (decide (r1.1 < (0 : Int))) = true then
          some ((0 : Int), (0 : Int), (9 : Int))
        else
          Option.bind (m_slot_Child x0 r1.1) fun r9 =>
          some (r1.1, r9.1, r9.2)
def m_ticketlinelaw15_downs (x0 : (List Int)) (x1 : ByteArray) (x2 : Int) (x3 : Int) (x4 : Int) : Option Bool :=
  Option.bind (m_search_Down x0 x1) fun r1 =>
  if (r1.1 == x2) = true then
    if (r1.2.1 == x3) = true then
      some (r1.2.2 == x4)
    else
      some false
  else
    some false
def m_ticketlinelaw15_known : Option Bool :=
  Option.bind (m_ticketlineref14_Plan_Used ((0 : Int), ((0 : Int), ((⟨#[]⟩ : ByteArray), ((⟨#[]⟩ : ByteArray), (([((⟨#[98]⟩ : ByteArray), ((⟨#[49]⟩ : ByteArray), ())), ((⟨#[100]⟩ : ByteArray), ((⟨#[50]⟩ : ByteArray), ())), ((⟨#[102]⟩ : ByteArray), ((⟨#[51]⟩ : ByteArray), ()))] : List (ByteArray × (ByteArray × Unit))), (([] : List Int), (([] : List (Int × (Int × Unit))), ())))))))) fun r2 =>
  Option.bind (m_ticketlineref14_Plan_Used ((1 : Int), ((0 : Int), ((⟨#[]⟩ : ByteArray), ((⟨#[]⟩ : ByteArray), (([((⟨#[]⟩ : ByteArray), ((⟨#[0, 0, 0, 0, 0, 0, 0, 7]⟩ : ByteArray), ())), ((⟨#[100]⟩ : ByteArray), ((⟨#[0, 0, 0, 0, 0, 0, 0, 8]⟩ : ByteArray), ())), ((⟨#[107]⟩ : ByteArray), ((⟨#[0, 0, 0, 0, 0, 0, 0, 9]⟩ : ByteArray), ()))] : List (ByteArray × (ByteArray × Unit))), (([] : List Int), (([] : List (Int × (Int × Unit))), ())))))))) fun r5 =>
  if (!r2.2) = true then
    some false
  else
    if (!r5.2) = true then
      some false
    else
      Option.bind (m_ticketlinelaw15_finds r2.1 (⟨#[100]⟩ : ByteArray) (1 : Int) true (0 : Int)) fun r7 =>
      if (!r7) = true then
        some false
      else
        Option.bind (m_ticketlinelaw15_finds r2.1 (⟨#[99]⟩ : ByteArray) (1 : Int) false (0 : Int)) fun r8 =>
        if (!r8) = true then
          some false
        else
          Option.bind (m_ticketlinelaw15_finds r2.1 (⟨#[103]⟩ : ByteArray) (3 : Int) false (0 : Int)) fun r9 =>
          if (!r9) = true then
            some false
          else
            Option.bind (m_ticketlinelaw15_finds r2.1 (⟨#[]⟩ : ByteArray) (0 : Int) false (0 : Int)) fun r10 =>
            if (!r10) = true then
              some false
            else
              Option.bind (m_ticketlinelaw15_gets r2.1 (⟨#[102]⟩ : ByteArray) (⟨#[51]⟩ : ByteArray) (0 : Int)) fun r11 =>
              if (!r11) = true then
                some false
              else
                Option.bind (m_ticketlinelaw15_gets r2.1 (⟨#[101]⟩ : ByteArray) (⟨#[]⟩ : ByteArray) (9 : Int)) fun r12 =>
                if (!r12) = true then
                  some false
                else
                  Option.bind (m_ticketlinelaw15_downs r5.1 (⟨#[97]⟩ : ByteArray) (0 : Int) (7 : Int) (0 : Int)) fun r13 =>
                  if (!r13) = true then
                    some false
                  else
                    Option.bind (m_ticketlinelaw15_downs r5.1 (⟨#[100]⟩ : ByteArray) (1 : Int) (8 : Int) (0 : Int)) fun r14 =>
                    if (!r14) = true then
                      some false
                    else
                      Option.bind (m_ticketlinelaw15_downs r5.1 (⟨#[106]⟩ : ByteArray) (1 : Int) (8 : Int) (0 : Int)) fun r15 =>
                      if (!r15) = true then
                        some false
                      else
                        Option.bind (m_ticketlinelaw15_downs r5.1 (⟨#[122]⟩ : ByteArray) (2 : Int) (9 : Int) (0 : Int)) fun r16 =>
                        if (!r16) = true then
                          some false
                        else
                          Option.bind (m_ticketlinelaw15_downs r5.1 (⟨#[]⟩ : ByteArray) (0 : Int) (7 : Int) (0 : Int)) fun r17 =>
                          if (!r17) = true then
                            some false
                          else
                            Option.bind (m_ticketlinelaw15_downs r2.1 (⟨#[98]⟩ : ByteArray) (0 : Int) (0 : Int) (8 : Int)) fun r18 =>
                            if (!r18) = true then
                              some false
                            else
                              Option.bind (m_ticketlinelaw15_gets r5.1 (⟨#[100]⟩ : ByteArray) (⟨#[]⟩ : ByteArray) (8 : Int)) fun r19 =>
                              if (!r19) = true then
                                some false
                              else
                                Option.bind (m_ticketlineref14_Plan_Used ((0 : Int), ((0 : Int), ((⟨#[]⟩ : ByteArray), ((⟨#[]⟩ : ByteArray), (([((⟨#[100]⟩ : ByteArray), ((⟨#[50]⟩ : ByteArray), ())), ((⟨#[98]⟩ : ByteArray), ((⟨#[49]⟩ : ByteArray), ())), ((⟨#[102]⟩ : ByteArray), ((⟨#[51]⟩ : ByteArray), ()))] : List (ByteArray × (ByteArray × Unit))), (([] : List Int), (([] : List (Int × (Int × Unit))), ())))))))) fun r21 =>
                                Option.bind (m_ticketlinelaw15_ranges r2.1 (⟨#[99]⟩ : ByteArray) (⟨#[102]⟩ : ByteArray) (1 : Int) (2 : Int) (0 : Int)) fun r23 =>
                                if r23 = true then
                                  Option.bind (m_ticketlinelaw15_ranges r2.1 (⟨#[98]⟩ : ByteArray) (⟨#[]⟩ : ByteArray) (0 : Int) (3 : Int) (0 : Int)) fun r24 =>
                                  if r24 = true then
                                    Option.bind (m_ticketlinelaw15_ranges r2.1 (⟨#[102]⟩ : ByteArray) (⟨#[99]⟩ : ByteArray) (2 : Int) (2 : Int) (0 : Int)) fun r25 =>
                                    if r25 = true then
                                      Option.bind (m_search_Sorted r21.1) fun r26 =>
                                      if (!r26) = true then
                                        Option.bind (m_search_Sorted r2.1) fun r27 =>
                                        if r27 = true then
                                          Option.bind (m_ticketlinelaw15_finds r21.1 (⟨#[98]⟩ : ByteArray) (0 : Int) false (13 : Int)) fun r28 =>
                                          if r28 = true then
                                            Option.bind (m_ticketlinelaw15_finds (List.replicate 128 (0 : Int)) (⟨#[98]⟩ : ByteArray) (0 : Int) false (12 : Int)) fun r30 =>
                                            some r30
                                          else
                                            some false
                                        else
                                          some false
                                      else
                                        some false
                                    else
                                      some false
                                  else
                                    some false
                                else
                                  some false
def m_ticketlineref15_Bad_l0_b (s0 : (Int → (List (ByteArray × (ByteArray × Unit))) → Option Int)) (u0_0 : Int) (u0_1 : (List (ByteArray × (ByteArray × Unit)))) : Option Int :=
  if (decide (u0_0 < (u0_1.length : Int))) = true then
    if (0 : Int) ≤ u0_0 then
      if u0_0 < (u0_1.length : Int) then
        let v5 := (rd (.pair .str (.pair .str .nl)) u0_1 u0_0).1
        let v6 := (IntKind.i64.wrap (u0_0 - (1 : Int)))
        if (0 : Int) ≤ v6 then
          if v6 < (u0_1.length : Int) then
            let v7 := (rd (.pair .str (.pair .str .nl)) u0_1 v6).1
            if (strLt v5 v7 || strEq v5 v7) = true then
              some (13 : Int)
            else
              s0 (IntKind.i64.wrap (u0_0 + (1 : Int))) u0_1
          else none
        else none
      else none
    else none
  else
    some (0 : Int)
def m_ticketlineref15_Bad_l0 (N : Nat) : Nat → Int → (List (ByteArray × (ByteArray × Unit))) → Option Int
  | 0, _, _ => none
  | n + 1, u0_0, u0_1 => m_ticketlineref15_Bad_l0_b (m_ticketlineref15_Bad_l0 N n) u0_0 u0_1
def m_ticketlineref15_Bad_a (l0 : (Int → (List (ByteArray × (ByteArray × Unit))) → Option Int)) (x0 : (List Int)) : Option Int :=
  Option.bind (m_ticketlineref14_Valid x0) fun r1 =>
  if (!r1) = true then
    some (12 : Int)
  else
    Option.bind (m_ticketlineref14_Pairs x0) fun r2 =>
    l0 (1 : Int) r2
def m_ticketlineref15_Bad (x0 : (List Int)) : Option Int := m_ticketlineref15_Bad_a (m_ticketlineref15_Bad_l0 FUEL FUEL) x0
def m_ticketlineref15_Find_l0_b (s0 : ((List (ByteArray × (ByteArray × Unit))) → ByteArray → Int → Option (Int × Bool))) (u0_0 : (List (ByteArray × (ByteArray × Unit)))) (u0_1 : ByteArray) (u0_2 : Int) : Option (Int × Bool) :=
  if (decide (u0_2 < (u0_0.length : Int))) = true then
    if (0 : Int) ≤ u0_2 then
      if u0_2 < (u0_0.length : Int) then
        if (strLt (rd (.pair .str (.pair .str .nl)) u0_0 u0_2).1 u0_1) = true then
          s0 u0_0 u0_1 (IntKind.i64.wrap (u0_2 + (1 : Int)))
        else
          if (decide (u0_2 < (u0_0.length : Int))) = true then
            if (0 : Int) ≤ u0_2 then
              if u0_2 < (u0_0.length : Int) then
                some (u0_2, (strEq (rd (.pair .str (.pair .str .nl)) u0_0 u0_2).1 u0_1))
              else none
            else none
          else
            some (u0_2, false)
      else none
    else none
  else
    if (decide (u0_2 < (u0_0.length : Int))) = true then
      if (0 : Int) ≤ u0_2 then
        if u0_2 < (u0_0.length : Int) then
          some (u0_2, (strEq (rd (.pair .str (.pair .str .nl)) u0_0 u0_2).1 u0_1))
        else none
      else none
    else
      some (u0_2, false)
def m_ticketlineref15_Find_l0 (N : Nat) : Nat → (List (ByteArray × (ByteArray × Unit))) → ByteArray → Int → Option (Int × Bool)
  | 0, _, _, _ => none
  | n + 1, u0_0, u0_1, u0_2 => m_ticketlineref15_Find_l0_b (m_ticketlineref15_Find_l0 N n) u0_0 u0_1 u0_2
def m_ticketlineref15_Find_a (l0 : ((List (ByteArray × (ByteArray × Unit))) → ByteArray → Int → Option (Int × Bool))) (x0 : (List (ByteArray × (ByteArray × Unit)))) (x1 : ByteArray) : Option (Int × Bool) :=
  l0 x0 x1 (0 : Int)
def m_ticketlineref15_Find (x0 : (List (ByteArray × (ByteArray × Unit)))) (x1 : ByteArray) : Option (Int × Bool) := m_ticketlineref15_Find_a (m_ticketlineref15_Find_l0 FUEL FUEL) x0 x1
def m_ticketlineref15_Down_l0_b (s0 : ((List (ByteArray × (ByteArray × Unit))) → ByteArray → Int → Int → Option Int)) (u0_0 : (List (ByteArray × (ByteArray × Unit)))) (u0_1 : ByteArray) (u0_2 : Int) (u0_3 : Int) : Option Int :=
  if (decide (u0_3 < (u0_0.length : Int))) = true then
    if (0 : Int) ≤ u0_3 then
      if u0_3 < (u0_0.length : Int) then
        let v3 := (rd (.pair .str (.pair .str .nl)) u0_0 u0_3)
        if (strLt v3.1 u0_1 || strEq v3.1 u0_1) = true then
          s0 u0_0 u0_1 u0_3 (IntKind.i64.wrap (u0_3 + (1 : Int)))
        else
          s0 u0_0 u0_1 u0_2 (IntKind.i64.wrap (u0_3 + (1 : Int)))
      else none
    else none
  else
    some u0_2
def m_ticketlineref15_Down_l0 (N : Nat) : Nat → (List (ByteArray × (ByteArray × Unit))) → ByteArray → Int → Int → Option Int
  | 0, _, _, _, _ => none
  | n + 1, u0_0, u0_1, u0_2, u0_3 => m_ticketlineref15_Down_l0_b (m_ticketlineref15_Down_l0 N n) u0_0 u0_1 u0_2 u0_3
def m_ticketlineref15_Down_a (l0 : ((List (ByteArray × (ByteArray × Unit))) → ByteArray → Int → Int → Option Int)) (x0 : (List (ByteArray × (ByteArray × Unit)))) (x1 : ByteArray) : Option Int :=
  l0 x0 x1 (-1 : Int) (0 : Int)
def m_ticketlineref15_Down (x0 : (List (ByteArray × (ByteArray × Unit)))) (x1 : ByteArray) : Option Int := m_ticketlineref15_Down_a (m_ticketlineref15_Down_l0 FUEL FUEL) x0 x1
def m_ticketlineref15_Child (x0 : ByteArray) : Option Int :=
  if (6 : Int) < (x0.size : Int) then
    if (7 : Int) < (x0.size : Int) then
      some (IntKind.i64.wrap ((IntKind.i64.wrap ((IntKind.i64.wrap (bt x0 (6 : Int))) * (256 : Int))) + (IntKind.i64.wrap (bt x0 (7 : Int)))))
    else none
  else none
def m_ticketlinelaw15_right (x0 : (List Int)) (x1 : ByteArray) : Option Bool :=
  Option.bind (m_ticketlineref15_Bad x0) fun r1 =>
  Option.bind (m_search_Sorted x0) fun r2 =>
  if (!(r2 == (r1 == (0 : Int)))) = true then
    some false
  else
    if (r1 != (0 : Int)) = true then
      Option.bind (m_ticketlinelaw15_finds x0 x1 (0 : Int) false r1) fun r5 =>
      if r5 = true then
        Option.bind (m_ticketlinelaw15_downs x0 x1 (0 : Int) (0 : Int) r1) fun r6 =>
        if r6 = true then
          Option.bind (m_ticketlinelaw15_gets x0 x1 (⟨#[]⟩ : ByteArray) r1) fun r7 =>
          some r7
        else
          some false
      else
        some false
    else
      Option.bind (m_ticketlineref14_Pairs x0) fun r8 =>
      Option.bind (m_ticketlineref15_Find r8 x1) fun r9 =>
      Option.bind (m_ticketlinelaw15_finds x0 x1 r9.1 r9.2 (0 : Int)) fun r10 =>
      if (!r10) = true then
        some false
      else
        if ((rd (.int .u64) x0 (8 : Int)) == (1 : Int)) = true then
          Option.bind (m_ticketlinelaw15_downs x0 x1 (0 : Int) (0 : Int) (8 : Int)) fun r13 =>
          if (!r13) = true then
            some false
          else
            if r9.2 = true then
              if (0 : Int) ≤ r9.1 then
                if r9.1 < (r8.length : Int) then
                  Option.bind (m_ticketlinelaw15_gets x0 x1 ((rd (.pair .str (.pair .str .nl)) r8 r9.1).2.1) (0 : Int)) fun r15 =>
                  some r15
                else none
              else none
            else
              Option.bind (m_ticketlinelaw15_gets x0 x1 (⟨#[]⟩ : ByteArray) (9 : Int)) fun r16 =>
              some r16
        else
          Option.bind (m_ticketlinelaw15_gets x0 x1 (⟨#[]⟩ : ByteArray) (8 : Int)) fun r17 =>
          if (!r17) = true then
            some false
          else
            Option.bind (m_ticketlineref15_Down r8 x1) fun r18 =>
            if (decide (r18 ≥ (0 : Int))) = true then
              if (0 : Int) ≤ r18 then
                if r18 < (r8.length : Int) then
                  Option.bind (m_ticketlineref15_Child ((rd (.pair .str (.pair .str .nl)) r8 r18).2.1)) fun r21 =>
                  Option.bind (m_ticketlinelaw15_downs x0 x1 r18 r21 (0 : Int)) fun r22 =>
                  some r22
                else none
              else none
            else
              Option.bind (m_ticketlinelaw15_downs x0 x1 (0 : Int) (0 : Int) (9 : Int)) fun r23 =>
              some r23
def m_ticketlinelaw15_SearchFinds (x0 : (Int × (Int × (ByteArray × (ByteArray × ((List (ByteArray × (ByteArray × Unit))) × ((List Int) × ((List (Int × (Int × Unit))) × Unit)))))))) (x1 : ByteArray) : Option Bool :=
  Option.bind (m_ticketlineref14_Plan_Page x0) fun r1 =>
  if (!r1.2) = true then
    Option.bind (m_ticketlinelaw15_known) fun r3 =>
    some r3
  else
    if (decide ((x1.size : Int) > (60 : Int))) = true then
      Option.bind (m_ticketlinelaw15_known) fun r5 =>
      some r5
    else
      Option.bind (m_ticketlinelaw15_right r1.1 x1) fun r6 =>
      if r6 = true then
        Option.bind (m_ticketlinelaw15_known) fun r7 =>
        some r7
      else
        some false
def m_ticketlinelaw15_SearchOwn_l0_b (s0 : (Int → Int → Int → ByteArray → ByteArray → (List (ByteArray × (ByteArray × Unit))) → (List Int) → (List (Int × (Int × Unit))) → (List Int) → Option Bool)) (u0_0 : Int) (u0_1 : Int) (u0_2 : Int) (u0_3 : ByteArray) (u0_4 : ByteArray) (u0_5 : (List (ByteArray × (ByteArray × Unit)))) (u0_6 : (List Int)) (u0_7 : (List (Int × (Int × Unit)))) (u0_8 : (List Int)) : Option Bool :=
  if (decide (u0_0 < (u0_5.length : Int))) = true then
    if (0 : Int) ≤ u0_0 then
      if u0_0 < (u0_5.length : Int) then
        let v6 := (rd (.pair .str (.pair .str .nl)) u0_5 u0_0)
        Option.bind (m_ticketlinelaw15_right u0_8 v6.1) fun r7 =>
        if (!r7) = true then
          some false
        else
          if v6.1.size + (⟨#[0]⟩ : ByteArray).size < 9223372036854775808 then
            Option.bind (m_ticketlinelaw15_right u0_8 (v6.1 ++ (⟨#[0]⟩ : ByteArray))) fun r9 =>
            if (!r9) = true then
              some false
            else
              if (decide ((v6.1.size : Int) > (0 : Int))) = true then
                let v13 := (IntKind.i64.wrap ((v6.1.size : Int) - (1 : Int)))
                if (0 : Int) ≤ v13 then
                  if v13 ≤ (v6.1.size : Int) then
                    if (0 : Int) ≤ v13 then
                      Option.bind (m_ticketlinelaw15_right u0_8 (ByteArray.extract v6.1 0 v13.toNat)) fun r15 =>
                      if (!r15) = true then
                        some false
                      else
                        s0 (IntKind.i64.wrap (u0_0 + (1 : Int))) u0_1 u0_2 u0_3 u0_4 u0_5 u0_6 u0_7 u0_8
                    else none
                  else none
                else none
              else
                s0 (IntKind.i64.wrap (u0_0 + (1 : Int))) u0_1 u0_2 u0_3 u0_4 u0_5 u0_6 u0_7 u0_8
          else none
      else none
    else none
  else
    Option.bind (m_ticketlinelaw15_known) fun r18 =>
    some r18
def m_ticketlinelaw15_SearchOwn_l0 (N : Nat) : Nat → Int → Int → Int → ByteArray → ByteArray → (List (ByteArray × (ByteArray × Unit))) → (List Int) → (List (Int × (Int × Unit))) → (List Int) → Option Bool
  | 0, _, _, _, _, _, _, _, _, _ => none
  | n + 1, u0_0, u0_1, u0_2, u0_3, u0_4, u0_5, u0_6, u0_7, u0_8 => m_ticketlinelaw15_SearchOwn_l0_b (m_ticketlinelaw15_SearchOwn_l0 N n) u0_0 u0_1 u0_2 u0_3 u0_4 u0_5 u0_6 u0_7 u0_8
def m_ticketlinelaw15_SearchOwn_a (l0 : (Int → Int → Int → ByteArray → ByteArray → (List (ByteArray × (ByteArray × Unit))) → (List Int) → (List (Int × (Int × Unit))) → (List Int) → Option Bool)) (x0 : (Int × (Int × (ByteArray × (ByteArray × ((List (ByteArray × (ByteArray × Unit))) × ((List Int) × ((List (Int × (Int × Unit))) × Unit)))))))) : Option Bool :=
  Option.bind (m_ticketlineref14_Plan_Used x0) fun r1 =>
  if (!r1.2) = true then
    Option.bind (m_ticketlinelaw15_known) fun r3 =>
    some r3
  else
    l0 (0 : Int) x0.1 x0.2.1 x0.2.2.1 x0.2.2.2.1 x0.2.2.2.2.1 x0.2.2.2.2.2.1 x0.2.2.2.2.2.2.1 r1.1
def m_ticketlinelaw15_SearchOwn (x0 : (Int × (Int × (ByteArray × (ByteArray × ((List (ByteArray × (ByteArray × Unit))) × ((List Int) × ((List (Int × (Int × Unit))) × Unit)))))))) : Option Bool := m_ticketlinelaw15_SearchOwn_a (m_ticketlinelaw15_SearchOwn_l0 FUEL FUEL) x0
def m_ticketlinelaw15_SearchRanges (x0 : (Int × (Int × (ByteArray × (ByteArray × ((List (ByteArray × (ByteArray × Unit))) × ((List Int) × ((List (Int × (Int × Unit))) × Unit)))))))) (x1 : ByteArray) (x2 : ByteArray) : Option Bool :=
  Option.bind (m_ticketlineref14_Plan_Page x0) fun r1 =>
  if (!r1.2) = true then
    Option.bind (m_ticketlinelaw15_known) fun r3 =>
    some r3
  else
    if (decide ((x1.size : Int) > (60 : Int))) = true then
      Option.bind (m_ticketlinelaw15_known) fun r5 =>
      some r5
    else
      if (decide ((x2.size : Int) > (60 : Int))) = true then
        Option.bind (m_ticketlinelaw15_known) fun r7 =>
        some r7
      else
        Option.bind (m_ticketlineref15_Bad r1.1) fun r8 =>
        if (r8 != (0 : Int)) = true then
          Option.bind (m_ticketlinelaw15_ranges r1.1 x1 x2 (0 : Int) (0 : Int) r8) fun r10 =>
          if r10 = true then
            Option.bind (m_ticketlinelaw15_known) fun r11 =>
            some r11
          else
            some false
        else
          Option.bind (m_ticketlineref14_Pairs r1.1) fun r12 =>
          Option.bind (m_ticketlineref15_Find r12 x1) fun r13 =>
          Option.bind (m_ticketlineref15_Find r12 x2) fun r14 =>
          if (strEq x2 (⟨#[]⟩ : ByteArray)) = true then
            Option.bind (m_ticketlinelaw15_ranges r1.1 x1 x2 r13.1 (mx r13.1 (r12.length : Int)) (0 : Int)) fun r17 =>
            if r17 = true then
              Option.bind (m_ticketlinelaw15_known) fun r18 =>
              some r18
            else
              some false
          else
            Option.bind (m_ticketlinelaw15_ranges r1.1 x1 x2 r13.1 (mx r13.1 r14.1) (0 : Int)) fun r20 =>
            if r20 = true then
              Option.bind (m_ticketlinelaw15_known) fun r21 =>
              some r21
            else
              some false
def m_ticketlinelaw15_SearchWords_l0_b (s0 : ((List Int) → ByteArray → Int → (List Int) → Option Bool)) (u0_0 : (List Int)) (u0_1 : ByteArray) (u0_2 : Int) (u0_3 : (List Int)) : Option Bool :=
  if (decide (u0_2 < (u0_0.length : Int))) = true then
    if (0 : Int) ≤ u0_2 then
      if u0_2 < (u0_0.length : Int) then
        if (0 : Int) ≤ u0_2 then
          if u0_2 < (128 : Int) then
            s0 u0_0 u0_1 (IntKind.i64.wrap (u0_2 + (1 : Int))) (List.set u0_3 u0_2.toNat (rd (.int .u64) u0_0 u0_2))
          else none
        else none
      else none
    else none
  else
    Option.bind (m_ticketlinelaw15_right u0_3 u0_1) fun r12 =>
    if r12 = true then
      Option.bind (m_ticketlinelaw15_known) fun r13 =>
      some r13
    else
      some false
def m_ticketlinelaw15_SearchWords_l0 (N : Nat) : Nat → (List Int) → ByteArray → Int → (List Int) → Option Bool
  | 0, _, _, _, _ => none
  | n + 1, u0_0, u0_1, u0_2, u0_3 => m_ticketlinelaw15_SearchWords_l0_b (m_ticketlinelaw15_SearchWords_l0 N n) u0_0 u0_1 u0_2 u0_3
def m_ticketlinelaw15_SearchWords_a (l0 : ((List Int) → ByteArray → Int → (List Int) → Option Bool)) (x0 : (List Int)) (x1 : ByteArray) : Option Bool :=
  if (decide ((x0.length : Int) > (128 : Int))) = true then
    Option.bind (m_ticketlinelaw15_known) fun r3 =>
    some r3
  else
    if (decide ((x1.size : Int) > (60 : Int))) = true then
      Option.bind (m_ticketlinelaw15_known) fun r5 =>
      some r5
    else
      l0 x0 x1 (0 : Int) (List.replicate 128 (0 : Int))
def m_ticketlinelaw15_SearchWords (x0 : (List Int)) (x1 : ByteArray) : Option Bool := m_ticketlinelaw15_SearchWords_a (m_ticketlinelaw15_SearchWords_l0 FUEL FUEL) x0 x1
def m_ticketlinelaw15_SearchHolds_l1_b (s1 : (ByteArray → Int → Bool → Int → (List Int) → (List (ByteArray × (ByteArray × Unit))) → Option Bool)) (u1_0 : ByteArray) (u1_1 : Int) (u1_2 : Bool) (u1_3 : Int) (u1_4 : (List Int)) (u1_5 : (List (ByteArray × (ByteArray × Unit)))) : Option Bool :=
  if (decide (u1_3 < (u1_5.length : Int))) = true then
    if (decide (u1_3 < u1_1)) = true then
      if (0 : Int) ≤ u1_3 then
        if u1_3 < (u1_5.length : Int) then
          if (!strLt ((rd (.pair .str (.pair .str .nl)) u1_5 u1_3).1) u1_0) = true then
            some false
          else
            if (decide (u1_3 ≥ u1_1)) = true then
              if (0 : Int) ≤ u1_3 then
                if u1_3 < (u1_5.length : Int) then
                  if (strLt ((rd (.pair .str (.pair .str .nl)) u1_5 u1_3).1) u1_0) = true then
                    some false
                  else
                    if (0 : Int) ≤ u1_3 then
                      if u1_3 < (u1_5.length : Int) then
                        if (strEq ((rd (.pair .str (.pair .str .nl)) u1_5 u1_3).1) u1_0) = true then
                          if (!u1_2) = true then
                            some false
                          else
                            if (u1_3 != u1_1) = true then
                              some false
                            else
                              s1 u1_0 u1_1 u1_2 (IntKind.i64.wrap (u1_3 + (1 : Int))) u1_4 u1_5
                        else
                          s1 u1_0 u1_1 u1_2 (IntKind.i64.wrap (u1_3 + (1 : Int))) u1_4 u1_5
                      else none
                    else none
                else none
              else none
            else
              if (0 : Int) ≤ u1_3 then
                if u1_3 < (u1_5.length : Int) then
                  if (strEq ((rd (.pair .str (.pair .str .nl)) u1_5 u1_3).1) u1_0) = true then
                    if (!u1_2) = true then
                      some false
                    else
                      if (u1_3 != u1_1) = true then
                        some false
                      else
                        s1 u1_0 u1_1 u1_2 (IntKind.i64.wrap (u1_3 + (1 : Int))) u1_4 u1_5
                  else
                    s1 u1_0 u1_1 u1_2 (IntKind.i64.wrap (u1_3 + (1 : Int))) u1_4 u1_5
                else none
              else none
        else none
      else none
    else
      if (decide (u1_3 ≥ u1_1)) = true then
        if (0 : Int) ≤ u1_3 then
          if u1_3 < (u1_5.length : Int) then
            if (strLt ((rd (.pair .str (.pair .str .nl)) u1_5 u1_3).1) u1_0) = true then
              some false
            else
              if (0 : Int) ≤ u1_3 then
                if u1_3 < (u1_5.length : Int) then
                  if (strEq ((rd (.pair .str (.pair .str .nl)) u1_5 u1_3).1) u1_0) = true then
                    if (!u1_2) = true then
                      some false
                    else
                      if (u1_3 != u1_1) = true then
                        some false
                      else
                        s1 u1_0 u1_1 u1_2 (IntKind.i64.wrap (u1_3 + (1 : Int))) u1_4 u1_5
                  else
                    s1 u1_0 u1_1 u1_2 (IntKind.i64.wrap (u1_3 + (1 : Int))) u1_4 u1_5
                else none
              else none
          else none
        else none
      else
        if (0 : Int) ≤ u1_3 then
          if u1_3 < (u1_5.length : Int) then
            if (strEq ((rd (.pair .str (.pair .str .nl)) u1_5 u1_3).1) u1_0) = true then
              if (!u1_2) = true then
                some false
              else
                if (u1_3 != u1_1) = true then
                  some false
                else
                  s1 u1_0 u1_1 u1_2 (IntKind.i64.wrap (u1_3 + (1 : Int))) u1_4 u1_5
            else
              s1 u1_0 u1_1 u1_2 (IntKind.i64.wrap (u1_3 + (1 : Int))) u1_4 u1_5
          else none
        else none
  else
    if (decide ((rd (.int .u64) u1_4 (8 : Int)) > (1 : Int))) = true then
      Option.bind (m_search_Down u1_4 u1_0) fun r48 =>
      if (r48.2.2 == (0 : Int)) = true then
        if (decide (r48.1 < (0 : Int))) = true then
          some false
        else
          if (decide (r48.1 ≥ (u1_5.length : Int))) = true then
            some false
          else
            if (decide (r48.2.1 < (1 : Int))) = true then
              some false
            else
              if (decide (r48.2.1 > (511 : Int))) = true then
                some false
              else
                if (0 : Int) ≤ r48.1 then
                  if r48.1 < (u1_5.length : Int) then
                    let v55 := (rd (.pair .str (.pair .str .nl)) u1_5 r48.1).1
                    if (!(strLt v55 u1_0 || strEq v55 u1_0)) = true then
                      some false
                    else
                      if (decide ((IntKind.i64.wrap (r48.1 + (1 : Int))) < (u1_5.length : Int))) = true then
                        let v60 := (IntKind.i64.wrap (r48.1 + (1 : Int)))
                        if (0 : Int) ≤ v60 then
                          if v60 < (u1_5.length : Int) then
                            let v61 := (rd (.pair .str (.pair .str .nl)) u1_5 v60).1
                            if (strLt v61 u1_0 || strEq v61 u1_0) = true then
                              some false
                            else
                              if (r48.2.2 != (0 : Int)) = true then
                                if (r48.2.2 != (9 : Int)) = true then
                                  some false
                                else
                                  if (r48.2.2 == (9 : Int)) = true then
                                    if (decide ((u1_5.length : Int) > (0 : Int))) = true then
                                      if (0 : Int) < (u1_5.length : Int) then
                                        let v68 := (rd (.pair .str (.pair .str .nl)) u1_5 (0 : Int)).1
                                        if (strLt v68 u1_0 || strEq v68 u1_0) = true then
                                          some false
                                        else
                                          Option.bind (m_ticketlinelaw15_known) fun r70 =>
                                          some r70
                                      else none
                                    else
                                      Option.bind (m_ticketlinelaw15_known) fun r71 =>
                                      some r71
                                  else
                                    Option.bind (m_ticketlinelaw15_known) fun r72 =>
                                    some r72
                              else
                                if (r48.2.2 == (9 : Int)) = true then
                                  if (decide ((u1_5.length : Int) > (0 : Int))) = true then
                                    if (0 : Int) < (u1_5.length : Int) then
                                      let v76 := (rd (.pair .str (.pair .str .nl)) u1_5 (0 : Int)).1
                                      if (strLt v76 u1_0 || strEq v76 u1_0) = true then
                                        some false
                                      else
                                        Option.bind (m_ticketlinelaw15_known) fun r78 =>
                                        some r78
                                    else none
                                  else
                                    Option.bind (m_ticketlinelaw15_known) fun r79 =>
                                    some r79
                                else
                                  Option.bind (m_ticketlinelaw15_known) fun r80 =>
                                  some r80
                          else none
                        else none
                      else
                        if (r48.2.2 != (0 : Int)) = true then
                          if (r48.2.2 != (9 : Int)) = true then
                            some false
                          else
                            if (r48.2.2 == (9 : Int)) = true then
                              if (decide ((u1_5.length : Int) > (0 : Int))) = true then
                                if (0 : Int) < (u1_5.length : Int) then
                                  let v86 := (rd (.pair .str (.pair .str .nl)) u1_5 (0 : Int)).1
                                  if (strLt v86 u1_0 || strEq v86 u1_0) = true then
                                    some false
                                  else
                                    Option.bind (m_ticketlinelaw15_known) fun r88 =>
                                    some r88
                                else none
                              else
                                Option.bind (m_ticketlinelaw15_known) fun r89 =>
                                some r89
                            else
                              Option.bind (m_ticketlinelaw15_known) fun r90 =>
                              some r90
                        else
                          if (r48.2.2 == (9 : Int)) = true then
                            if (decide ((u1_5.length : Int) > (0 : Int))) = true then
                              if (0 : Int) < (u1_5.length : Int) then
                                let v94 := (rd (.pair .str (.pair .str .nl)) u1_5 (0 : Int)).1
                                if (strLt v94 u1_0 || strEq v94 u1_0) = true then
                                  some false
                                else
                                  Option.bind (m_ticketlinelaw15_known) fun r96 =>
                                  some r96
                              else none
                            else
                              Option.bind (m_ticketlinelaw15_known) fun r97 =>
                              some r97
                          else
                            Option.bind (m_ticketlinelaw15_known) fun r98 =>
                            some r98
                  else none
                else none
      else
        if (r48.2.2 != (0 : Int)) = true then
          if (r48.2.2 != (9 : Int)) = true then
            some false
          else
            if (r48.2.2 == (9 : Int)) = true then
              if (decide ((u1_5.length : Int) > (0 : Int))) = true then
                if (0 : Int) < (u1_5.length : Int) then
                  let v104 := (rd (.pair .str (.pair .str .nl)) u1_5 (0 : Int)).1
                  if (strLt v104 u1_0 || strEq v104 u1_0) = true then
                    some false
                  else
                    Option.bind (m_ticketlinelaw15_known) fun r106 =>
                    some r106
                else none
              else
                Option.bind (m_ticketlinelaw15_known) fun r107 =>
                some r107
            else
              Option.bind (m_ticketlinelaw15_known) fun r108 =>
              some r108
        else
          if (r48.2.2 == (9 : Int)) = true then
            if (decide ((u1_5.length : Int) > (0 : Int))) = true then
              if (0 : Int) < (u1_5.length : Int) then
                let v112 := (rd (.pair .str (.pair .str .nl)) u1_5 (0 : Int)).1
                if (strLt v112 u1_0 || strEq v112 u1_0) = true then
                  some false
                else
                  Option.bind (m_ticketlinelaw15_known) fun r114 =>
                  some r114
              else none
            else
              Option.bind (m_ticketlinelaw15_known) fun r115 =>
              some r115
          else
            Option.bind (m_ticketlinelaw15_known) fun r116 =>
            some r116
    else
      Option.bind (m_ticketlinelaw15_known) fun r117 =>
      some r117
def m_ticketlinelaw15_SearchHolds_l1 (N : Nat) : Nat → ByteArray → Int → Bool → Int → (List Int) → (List (ByteArray × (ByteArray × Unit))) → Option Bool
  | 0, _, _, _, _, _, _ => none
  | n + 1, u1_0, u1_1, u1_2, u1_3, u1_4, u1_5 => m_ticketlinelaw15_SearchHolds_l1_b (m_ticketlinelaw15_SearchHolds_l1 N n) u1_0 u1_1 u1_2 u1_3 u1_4 u1_5
def m_ticketlinelaw15_SearchHolds_l0_b (s0 : (ByteArray → Int → (List Int) → (List (ByteArray × (ByteArray × Unit))) → Option Bool)) (l1 : (ByteArray → Int → Bool → Int → (List Int) → (List (ByteArray × (ByteArray × Unit))) → Option Bool)) (u0_0 : ByteArray) (u0_1 : Int) (u0_2 : (List Int)) (u0_3 : (List (ByteArray × (ByteArray × Unit)))) : Option Bool :=
  if (decide (u0_1 < (u0_3.length : Int))) = true then
    if (0 : Int) ≤ u0_1 then
      if u0_1 < (u0_3.length : Int) then
        Option.bind (m_ticketlinelaw15_finds u0_2 ((rd (.pair .str (.pair .str .nl)) u0_3 u0_1).1) u0_1 true (0 : Int)) fun r12 =>
        if (!r12) = true then
          some false
        else
          s0 u0_0 (IntKind.i64.wrap (u0_1 + (1 : Int))) u0_2 u0_3
      else none
    else none
  else
    Option.bind (m_search_Find u0_2 u0_0) fun r14 =>
    if (r14.2.2 != (0 : Int)) = true then
      some false
    else
      if (decide (r14.1 < (0 : Int))) = true then
        some false
      else
        if (decide (r14.1 > (u0_3.length : Int))) = true then
          some false
        else
          l1 u0_0 r14.1 r14.2.1 (0 : Int) u0_2 u0_3
def m_ticketlinelaw15_SearchHolds_l0 (N : Nat) : Nat → ByteArray → Int → (List Int) → (List (ByteArray × (ByteArray × Unit))) → Option Bool
  | 0, _, _, _, _ => none
  | n + 1, u0_0, u0_1, u0_2, u0_3 => m_ticketlinelaw15_SearchHolds_l0_b (m_ticketlinelaw15_SearchHolds_l0 N n) (m_ticketlinelaw15_SearchHolds_l1 N N) u0_0 u0_1 u0_2 u0_3
def m_ticketlinelaw15_SearchHolds_a (l0 : (ByteArray → Int → (List Int) → (List (ByteArray × (ByteArray × Unit))) → Option Bool)) (x0 : (Int × (Int × (ByteArray × (ByteArray × ((List (ByteArray × (ByteArray × Unit))) × ((List Int) × ((List (Int × (Int × Unit))) × Unit)))))))) (x1 : ByteArray) : Option Bool :=
  Option.bind (m_ticketlineref14_Plan_Used x0) fun r1 =>
  if (!r1.2) = true then
    Option.bind (m_ticketlinelaw15_known) fun r3 =>
    some r3
  else
    if (decide ((x1.size : Int) > (60 : Int))) = true then
      Option.bind (m_ticketlinelaw15_known) fun r5 =>
      some r5
    else
      Option.bind (m_search_Sorted r1.1) fun r6 =>
      if (!r6) = true then
        Option.bind (m_ticketlinelaw15_known) fun r7 =>
        some r7
      else
        Option.bind (m_ticketlineref14_Pairs r1.1) fun r8 =>
        l0 x1 (0 : Int) r1.1 r8
def m_ticketlinelaw15_SearchHolds (x0 : (Int × (Int × (ByteArray × (ByteArray × ((List (ByteArray × (ByteArray × Unit))) × ((List Int) × ((List (Int × (Int × Unit))) × Unit)))))))) (x1 : ByteArray) : Option Bool := m_ticketlinelaw15_SearchHolds_a (m_ticketlinelaw15_SearchHolds_l0 FUEL FUEL) x0 x1
end Go.Ev.M
