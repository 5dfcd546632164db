/- A part of the proof of a statement of this seat: the plain models of the functions. No condition. -/
import Derived.Test.YtfohnbfhajkelaaM14
set_option linter.unusedVariables false
namespace Go.Ev.M
open Go Go.Ev
def m_search_sorted_l0_b (s0 : (Int → (List (ByteArray × (ByteArray × Unit))) → Option ((List (ByteArray × (ByteArray × Unit))) × Int))) (u0_0 : Int) (u0_1 : (List (ByteArray × (ByteArray × Unit)))) : Option ((List (ByteArray × (ByteArray × Unit))) × Int) :=
  if (decide (u0_0 < (u0_1.length : Int))) = true then
  let v5 := (IntKind.i64.wrap (u0_0 - (1 : Int)))
  if (0 : Int) ≤ v5 then
   if v5 < (u0_1.length : Int) then
    if (0 : Int) ≤ u0_0 then
     if u0_0 < (u0_1.length : Int) then
      Option.bind (m_keys_Compare ((rd (.pair .str (.pair .str .nl)) u0_1 v5).1) ((rd (.pair .str (.pair .str .nl)) u0_1 u0_0).1)) fun r8 =>
      if (decide (r8 ≥ (0 : Int))) = true then
       some (([] : List (ByteArray × (ByteArray × Unit))), (13 : Int))
      else
       s0 (IntKind.i64.wrap (u0_0 + (1 : Int))) u0_1
     else none
    else none
   else none
  else none
  else
  some (u0_1, (0 : Int))
def m_search_sorted_l0 (N : Nat) : Nat → Int → (List (ByteArray × (ByteArray × Unit))) → Option ((List (ByteArray × (ByteArray × Unit))) × Int)
  | 0, _, _ => none
  | n + 1, u0_0, u0_1 => m_search_sorted_l0_b (m_search_sorted_l0 N n) u0_0 u0_1
def m_search_sorted_a (l0 : (Int → (List (ByteArray × (ByteArray × Unit))) → Option ((List (ByteArray × (ByteArray × Unit))) × Int))) (x0 : (List Int)) : Option ((List (ByteArray × (ByteArray × Unit))) × Int) :=
  Option.bind (m_slot_Pairs x0) fun r1 =>
  if (r1.2 != (0 : Int)) = true then
  some (([] : List (ByteArray × (ByteArray × Unit))), r1.2)
  else
  l0 (1 : Int) r1.1
def m_search_sorted (x0 : (List Int)) : Option ((List (ByteArray × (ByteArray × Unit))) × Int) := m_search_sorted_a (m_search_sorted_l0 FUEL FUEL) x0
def m_search_place_l0_b (s0 : ((List (ByteArray × (ByteArray × Unit))) → ByteArray → Int → Int → Bool → Option (Int × Bool))) (u0_0 : (List (ByteArray × (ByteArray × Unit)))) (u0_1 : ByteArray) (u0_2 : Int) (u0_3 : Int) (u0_4 : Bool) : Option (Int × Bool) :=
  if (decide (u0_2 < u0_3)) = true then
  let v4 := (IntKind.i64.wrap (Int.tdiv (IntKind.i64.wrap (u0_2 + u0_3)) (2 : Int)))
  if (0 : Int) ≤ v4 then
   if v4 < (u0_0.length : Int) then
    Option.bind (m_keys_Compare (rd (.pair .str (.pair .str .nl)) u0_0 v4).1 u0_1) fun r6 =>
    if (r6 == (-1 : Int)) = true then
     s0 u0_0 u0_1 (IntKind.i64.wrap (v4 + (1 : Int))) u0_3 u0_4
    else
     if (r6 == (1 : Int)) = true then
      s0 u0_0 u0_1 u0_2 v4 u0_4
     else
      some (v4, true)
   else none
  else none
  else
  some (u0_2, u0_4)
def m_search_place_l0 (N : Nat) : Nat → (List (ByteArray × (ByteArray × Unit))) → ByteArray → Int → Int → Bool → Option (Int × Bool)
  | 0, _, _, _, _, _ => none
  | n + 1, u0_0, u0_1, u0_2, u0_3, u0_4 => m_search_place_l0_b (m_search_place_l0 N n) u0_0 u0_1 u0_2 u0_3 u0_4
def m_search_place_a (l0 : ((List (ByteArray × (ByteArray × Unit))) → ByteArray → Int → Int → Bool → Option (Int × Bool))) (x0 : (List (ByteArray × (ByteArray × Unit)))) (x1 : ByteArray) : Option (Int × Bool) :=
  l0 x0 x1 (0 : Int) (x0.length : Int) false
def m_search_place (x0 : (List (ByteArray × (ByteArray × Unit)))) (x1 : ByteArray) : Option (Int × Bool) := m_search_place_a (m_search_place_l0 FUEL FUEL) x0 x1
def m_search_Find (x0 : (List Int)) (x1 : ByteArray) : Option (Int × Bool × Int) :=
  Option.bind (m_search_sorted x0) fun r1 =>
  if (r1.2 != (0 : Int)) = true then
  some ((0 : Int), false, r1.2)
  else
  Option.bind (m_search_place r1.1 x1) fun r3 =>
  some (r3.1, r3.2, (0 : Int))
def m_ticketlineref15_Bad_l0_b (s0 : (Int → (List (ByteArray × (ByteArray × Unit))) → Option Int)) (u0_0 : Int) (u0_1 : (List (ByteArray × (ByteArray × Unit)))) : Option Int :=
  if (decide (u0_0 < (u0_1.length : Int))) = true then
  if (0 : Int) ≤ u0_0 then
   if u0_0 < (u0_1.length : Int) then
    let v5 := (rd (.pair .str (.pair .str .nl)) u0_1 u0_0).1
    let v6 := (IntKind.i64.wrap (u0_0 - (1 : Int)))
    if (0 : Int) ≤ v6 then
     if v6 < (u0_1.length : Int) then
      let v7 := (rd (.pair .str (.pair .str .nl)) u0_1 v6).1
      if (strLt v5 v7 || strEq v5 v7) = true then
       some (13 : Int)
      else
       s0 (IntKind.i64.wrap (u0_0 + (1 : Int))) u0_1
     else none
    else none
   else none
  else none
  else
  some (0 : Int)
def m_ticketlineref15_Bad_l0 (N : Nat) : Nat → Int → (List (ByteArray × (ByteArray × Unit))) → Option Int
  | 0, _, _ => none
  | n + 1, u0_0, u0_1 => m_ticketlineref15_Bad_l0_b (m_ticketlineref15_Bad_l0 N n) u0_0 u0_1
def m_ticketlineref15_Bad_a (l0 : (Int → (List (ByteArray × (ByteArray × Unit))) → Option Int)) (x0 : (List Int)) : Option Int :=
  Option.bind (m_ticketlineref14_Valid x0) fun r1 =>
  if (!r1) = true then
  some (12 : Int)
  else
  Option.bind (m_ticketlineref14_Pairs x0) fun r2 =>
  l0 (1 : Int) r2
def m_ticketlineref15_Bad (x0 : (List Int)) : Option Int := m_ticketlineref15_Bad_a (m_ticketlineref15_Bad_l0 FUEL FUEL) x0
def m_ticketlineref15_Find_l0_b (s0 : ((List (ByteArray × (ByteArray × Unit))) → ByteArray → Int → Option (Int × Bool))) (u0_0 : (List (ByteArray × (ByteArray × Unit)))) (u0_1 : ByteArray) (u0_2 : Int) : Option (Int × Bool) :=
  if (decide (u0_2 < (u0_0.length : Int))) = true then
  if (0 : Int) ≤ u0_2 then
   if u0_2 < (u0_0.length : Int) then
    if (strLt (rd (.pair .str (.pair .str .nl)) u0_0 u0_2).1 u0_1) = true then
     s0 u0_0 u0_1 (IntKind.i64.wrap (u0_2 + (1 : Int)))
    else
     if (decide (u0_2 < (u0_0.length : Int))) = true then
      if (0 : Int) ≤ u0_2 then
       if u0_2 < (u0_0.length : Int) then
        some (u0_2, (strEq (rd (.pair .str (.pair .str .nl)) u0_0 u0_2).1 u0_1))
       else none
      else none
     else
      some (u0_2, false)
   else none
  else none
  else
  if (decide (u0_2 < (u0_0.length : Int))) = true then
   if (0 : Int) ≤ u0_2 then
    if u0_2 < (u0_0.length : Int) then
     some (u0_2, (strEq (rd (.pair .str (.pair .str .nl)) u0_0 u0_2).1 u0_1))
    else none
   else none
  else
   some (u0_2, false)
def m_ticketlineref15_Find_l0 (N : Nat) : Nat → (List (ByteArray × (ByteArray × Unit))) → ByteArray → Int → Option (Int × Bool)
  | 0, _, _, _ => none
  | n + 1, u0_0, u0_1, u0_2 => m_ticketlineref15_Find_l0_b (m_ticketlineref15_Find_l0 N n) u0_0 u0_1 u0_2
def m_ticketlineref15_Find_a (l0 : ((List (ByteArray × (ByteArray × Unit))) → ByteArray → Int → Option (Int × Bool))) (x0 : (List (ByteArray × (ByteArray × Unit)))) (x1 : ByteArray) : Option (Int × Bool) :=
  l0 x0 x1 (0 : Int)
def m_ticketlineref15_Find (x0 : (List (ByteArray × (ByteArray × Unit)))) (x1 : ByteArray) : Option (Int × Bool) := m_ticketlineref15_Find_a (m_ticketlineref15_Find_l0 FUEL FUEL) x0 x1
end Go.Ev.M
