/- A part of the proof of a statement of this seat: the plain models of the functions. No condition. -/
import Derived.Test.YtfohnbfhajkelaaM14
import Derived.Test.YtfohnbfhajkelaaM15
set_option linter.unusedVariables false
namespace Go.Ev.M
open Go Go.Ev
def m_ticketlineref16_Make (x0 : Int) (x1 : ByteArray) (x2 : ByteArray) (x3 : Int) : Option Int :=
  if (decide (x0 < (0 : Int))) = true then
  some (2 : Int)
  else
  if (decide (x0 > (5 : Int))) = true then
   some (2 : Int)
  else
   if (decide ((x1.size : Int) > (24 : Int))) = true then
    some (5 : Int)
   else
    if (decide ((x2.size : Int) > (24 : Int))) = true then
     some (5 : Int)
    else
     if (!strEq x2 (⟨#[]⟩ : ByteArray)) = true then
      if (!strLt x1 x2) = true then
       some (13 : Int)
      else
       if (decide (x3 < (0 : Int))) = true then
        some (3 : Int)
       else
        if (decide (x3 > (511 : Int))) = true then
         some (3 : Int)
        else
         some (0 : Int)
     else
      if (decide (x3 < (0 : Int))) = true then
       some (3 : Int)
      else
       if (decide (x3 > (511 : Int))) = true then
        some (3 : Int)
       else
        some (0 : Int)
def m_ticketlineref16_Number (x0 : Int) : Option ByteArray :=
  some (strOf ([(0 : Int), (0 : Int), (0 : Int), (0 : Int), (0 : Int), (0 : Int), (IntKind.u8.wrap (IntKind.i64.wrap (Int.tdiv x0 (256 : Int)))), (IntKind.u8.wrap (Int.tmod x0 (256 : Int)))] : List Int))
def m_ticketlineref16_Allowed (x0 : Bool) (x1 : Int) (x2 : (ByteArray × (ByteArray × Unit))) : Option Int :=
  if (strEq x2.1 (⟨#[]⟩ : ByteArray)) = true then
  if x0 = true then
   some (2 : Int)
  else
   if (decide (x1 > (0 : Int))) = true then
    some (2 : Int)
   else
    if (!x0) = true then
     if ((x2.2.1.size : Int) == (8 : Int)) = true then
      if (6 : Int) < (x2.2.1.size : Int) then
       if (7 : Int) < (x2.2.1.size : Int) then
        let v10 := (IntKind.i64.wrap ((IntKind.i64.wrap ((IntKind.i64.wrap (bt x2.2.1 (6 : Int))) * (256 : Int))) + (IntKind.i64.wrap (bt x2.2.1 (7 : Int)))))
        if (decide (v10 < (1 : Int))) = true then
         some (2 : Int)
        else
         if (decide (v10 > (511 : Int))) = true then
          some (2 : Int)
         else
          Option.bind (m_ticketlineref16_Number v10) fun r13 =>
          if (!strEq x2.2.1 r13) = true then
           some (2 : Int)
          else
           if (decide ((x2.1.size : Int) > (24 : Int))) = true then
            some (5 : Int)
           else
            if (decide ((x2.2.1.size : Int) > (40 : Int))) = true then
             some (5 : Int)
            else
             some (0 : Int)
       else none
      else none
     else
      some (2 : Int)
    else
     if (decide ((x2.1.size : Int) > (24 : Int))) = true then
      some (5 : Int)
     else
      if (decide ((x2.2.1.size : Int) > (40 : Int))) = true then
       some (5 : Int)
      else
       some (0 : Int)
  else
  if (!x0) = true then
   if ((x2.2.1.size : Int) == (8 : Int)) = true then
    if (6 : Int) < (x2.2.1.size : Int) then
     if (7 : Int) < (x2.2.1.size : Int) then
      let v30 := (IntKind.i64.wrap ((IntKind.i64.wrap ((IntKind.i64.wrap (bt x2.2.1 (6 : Int))) * (256 : Int))) + (IntKind.i64.wrap (bt x2.2.1 (7 : Int)))))
      if (decide (v30 < (1 : Int))) = true then
       some (2 : Int)
      else
       if (decide (v30 > (511 : Int))) = true then
        some (2 : Int)
       else
        Option.bind (m_ticketlineref16_Number v30) fun r33 =>
        if (!strEq x2.2.1 r33) = true then
         some (2 : Int)
        else
         if (decide ((x2.1.size : Int) > (24 : Int))) = true then
          some (5 : Int)
         else
          if (decide ((x2.2.1.size : Int) > (40 : Int))) = true then
           some (5 : Int)
          else
           some (0 : Int)
     else none
    else none
   else
    some (2 : Int)
  else
   if (decide ((x2.1.size : Int) > (24 : Int))) = true then
    some (5 : Int)
   else
    if (decide ((x2.2.1.size : Int) > (40 : Int))) = true then
     some (5 : Int)
    else
     some (0 : Int)
def m_ticketlineref16_Of_l1_b (s1 : ((List (ByteArray × (ByteArray × Unit))) → Int → (List Int) → (List Int) → Option ((List Int) × Int))) (u1_0 : (List (ByteArray × (ByteArray × Unit)))) (u1_1 : Int) (u1_2 : (List Int)) (u1_3 : (List Int)) : Option ((List Int) × Int) :=
  if (decide (u1_1 < (u1_0.length : Int))) = true then
  if (0 : Int) ≤ u1_1 then
   if u1_1 < (u1_0.length : Int) then
    Option.bind (m_ticketlineref14_Put u1_3 (rd (.pair .str (.pair .str .nl)) u1_0 u1_1)) fun r30 =>
    s1 u1_0 (IntKind.i64.wrap (u1_1 + (1 : Int))) u1_2 r30
   else none
  else none
  else
  some (u1_3, (0 : Int))
def m_ticketlineref16_Of_l1 (N : Nat) : Nat → (List (ByteArray × (ByteArray × Unit))) → Int → (List Int) → (List Int) → Option ((List Int) × Int)
  | 0, _, _, _, _ => none
  | n + 1, u1_0, u1_1, u1_2, u1_3 => m_ticketlineref16_Of_l1_b (m_ticketlineref16_Of_l1 N n) u1_0 u1_1 u1_2 u1_3
def m_ticketlineref16_Of_l0_b (s0 : (Int → ByteArray → ByteArray → Int → (List (ByteArray × (ByteArray × Unit))) → Int → (List Int) → Option ((List Int) × Int))) (l1 : ((List (ByteArray × (ByteArray × Unit))) → Int → (List Int) → (List Int) → Option ((List Int) × Int))) (u0_0 : Int) (u0_1 : ByteArray) (u0_2 : ByteArray) (u0_3 : Int) (u0_4 : (List (ByteArray × (ByteArray × Unit)))) (u0_5 : Int) (u0_6 : (List Int)) : Option ((List Int) × Int) :=
  if (decide (u0_5 < (u0_4.length : Int))) = true then
  if (0 : Int) ≤ u0_5 then
   if u0_5 < (u0_4.length : Int) then
    Option.bind (m_ticketlineref16_Allowed (u0_0 == (0 : Int)) u0_5 (rd (.pair .str (.pair .str .nl)) u0_4 u0_5)) fun r9 =>
    if (r9 != (0 : Int)) = true then
     some ((List.replicate 128 (0 : Int)), r9)
    else
     if (decide (u0_5 > (0 : Int))) = true then
      if (0 : Int) ≤ u0_5 then
       if u0_5 < (u0_4.length : Int) then
        let v13 := (rd (.pair .str (.pair .str .nl)) u0_4 u0_5)
        let v14 := (IntKind.i64.wrap (u0_5 - (1 : Int)))
        if (0 : Int) ≤ v14 then
         if v14 < (u0_4.length : Int) then
          let v15 := (rd (.pair .str (.pair .str .nl)) u0_4 v14)
          if (strLt v13.1 v15.1 || strEq v13.1 v15.1) = true then
           some ((List.replicate 128 (0 : Int)), (13 : Int))
          else
           s0 u0_0 u0_1 u0_2 u0_3 u0_4 (IntKind.i64.wrap (u0_5 + (1 : Int))) u0_6
         else none
        else none
       else none
      else none
     else
      s0 u0_0 u0_1 u0_2 u0_3 u0_4 (IntKind.i64.wrap (u0_5 + (1 : Int))) u0_6
   else none
  else none
  else
  Option.bind (m_ticketlineref14_Sum u0_4) fun r20 =>
  if (decide (r20 > (108 : Int))) = true then
   some ((List.replicate 128 (0 : Int)), (7 : Int))
  else
   Option.bind (m_ticketlineref14_Empty u0_0 u0_1 u0_2) fun r23 =>
   l1 u0_4 (0 : Int) u0_6 (List.set r23 10 (IntKind.u64.wrap u0_3))
def m_ticketlineref16_Of_l0 (N : Nat) : Nat → Int → ByteArray → ByteArray → Int → (List (ByteArray × (ByteArray × Unit))) → Int → (List Int) → Option ((List Int) × Int)
  | 0, _, _, _, _, _, _, _ => none
  | n + 1, u0_0, u0_1, u0_2, u0_3, u0_4, u0_5, u0_6 => m_ticketlineref16_Of_l0_b (m_ticketlineref16_Of_l0 N n) (m_ticketlineref16_Of_l1 N N) u0_0 u0_1 u0_2 u0_3 u0_4 u0_5 u0_6
def m_ticketlineref16_Of_a (l0 : (Int → ByteArray → ByteArray → Int → (List (ByteArray × (ByteArray × Unit))) → Int → (List Int) → Option ((List Int) × Int))) (x0 : Int) (x1 : ByteArray) (x2 : ByteArray) (x3 : Int) (x4 : (List (ByteArray × (ByteArray × Unit)))) : Option ((List Int) × Int) :=
  Option.bind (m_ticketlineref16_Make x0 x1 x2 x3) fun r2 =>
  if (r2 != (0 : Int)) = true then
  some ((List.replicate 128 (0 : Int)), r2)
  else
  l0 x0 x1 x2 x3 x4 (0 : Int) (List.replicate 128 (0 : Int))
def m_ticketlineref16_Of (x0 : Int) (x1 : ByteArray) (x2 : ByteArray) (x3 : Int) (x4 : (List (ByteArray × (ByteArray × Unit)))) : Option ((List Int) × Int) := m_ticketlineref16_Of_a (m_ticketlineref16_Of_l0 FUEL FUEL) x0 x1 x2 x3 x4
end Go.Ev.M
