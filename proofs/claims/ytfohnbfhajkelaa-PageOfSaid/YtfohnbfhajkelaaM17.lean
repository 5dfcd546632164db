/- A part of the proof of a statement of this seat: the plain models of the functions. No condition. -/
import Derived.Test.YtfohnbfhajkelaaM14
import Derived.Test.YtfohnbfhajkelaaM15
import Derived.Test.YtfohnbfhajkelaaM19
set_option linter.unusedVariables false
namespace Go.Ev.M
open Go Go.Ev
def m_page_Number (x0 : Int) : Option (ByteArray × Int) :=
  if (decide (x0 < (1 : Int))) = true then
  some ((⟨#[]⟩ : ByteArray), (2 : Int))
  else
  if (decide (x0 > (511 : Int))) = true then
   some ((⟨#[]⟩ : ByteArray), (2 : Int))
  else
   some ((strOf ([(0 : Int), (0 : Int), (0 : Int), (0 : Int), (0 : Int), (0 : Int), (IntKind.u8.wrap (shrI .i64 x0 (8 : Int))), (IntKind.u8.wrap x0)] : List Int)), (0 : Int))
def m_page_child (x0 : ByteArray) : Option Bool :=
  if ((x0.size : Int) != (8 : Int)) = true then
  some false
  else
  if (6 : Int) < (x0.size : Int) then
   if (7 : Int) < (x0.size : Int) then
    Option.bind (m_page_Number (bor .i64 (shlI .i64 (IntKind.i64.wrap (bt x0 (6 : Int))) (8 : Int)) (IntKind.i64.wrap (bt x0 (7 : Int))))) fun r8 =>
    if (r8.2 == (0 : Int)) = true then
     some (strEq r8.1 x0)
    else
     some false
   else none
  else none
def m_page_allowed (x0 : Bool) (x1 : Int) (x2 : ByteArray) (x3 : ByteArray) : Option Int :=
  if (strEq x2 (⟨#[]⟩ : ByteArray)) = true then
  if x0 = true then
   some (2 : Int)
  else
   if (decide (x1 > (0 : Int))) = true then
    some (2 : Int)
   else
    if (!x0) = true then
     Option.bind (m_page_child x3) fun r3 =>
     if (!r3) = true then
      some (2 : Int)
     else
      if (decide ((x2.size : Int) > (24 : Int))) = true then
       some (5 : Int)
      else
       Option.bind (m_keys_ValidValue x3) fun r5 =>
       if (!r5) = true then
        some (5 : Int)
       else
        some (0 : Int)
    else
     if (decide ((x2.size : Int) > (24 : Int))) = true then
      some (5 : Int)
     else
      Option.bind (m_keys_ValidValue x3) fun r7 =>
      if (!r7) = true then
       some (5 : Int)
      else
       some (0 : Int)
  else
  if (!x0) = true then
   Option.bind (m_page_child x3) fun r8 =>
   if (!r8) = true then
    some (2 : Int)
   else
    if (decide ((x2.size : Int) > (24 : Int))) = true then
     some (5 : Int)
    else
     Option.bind (m_keys_ValidValue x3) fun r10 =>
     if (!r10) = true then
      some (5 : Int)
     else
      some (0 : Int)
  else
   if (decide ((x2.size : Int) > (24 : Int))) = true then
    some (5 : Int)
   else
    Option.bind (m_keys_ValidValue x3) fun r12 =>
    if (!r12) = true then
     some (5 : Int)
    else
     some (0 : Int)
def m_page_record (x0 : (List Int)) (x1 : ByteArray) (x2 : ByteArray) : Option (List Int) :=
  Option.bind (m_keys_Pack x1) fun r1 =>
  Option.bind (m_keys_Pack x2) fun r2 =>
  let v9 := (List.set x0 11 (IntKind.u64.wrap ((rd (.int .u64) x0 (11 : Int)) - (IntKind.u64.wrap (IntKind.i64.wrap ((r1.1.length : Int) + (r2.1.length : Int)))))))
  let v10 := (rd (.int .u64) v9 (11 : Int))
  if (0 : Int) ≤ v10 then
  if v10 ≤ (128 : Int) then
   let v11 := ((128 : Int) - v10)
   let v16 := (IntKind.i64.wrap ((IntKind.i64.wrap v10) + (r1.1.length : Int)))
   if (0 : Int) ≤ v16 then
    if v16 ≤ (128 : Int) then
     let v17 := ((128 : Int) - v16)
     let v18 := (splice (splice v9 v10 (List.take v11.toNat r1.1)) v16 (List.take v17.toNat r2.1))
     let v21 := (IntKind.u64.wrap ((20 : Int) + (rd (.int .u64) v18 (9 : Int))))
     if (0 : Int) ≤ v21 then
      if v21 < (128 : Int) then
       let v28 := (List.set v18 v21.toNat (bor .u64 (bor .u64 (shlI .u64 v10 (16 : Int)) (shlI .u64 (IntKind.u64.wrap (x1.size : Int)) (8 : Int))) (IntKind.u64.wrap (x2.size : Int))))
       some (List.set v28 9 (IntKind.u64.wrap ((rd (.int .u64) v28 (9 : Int)) + (1 : Int))))
      else none
     else none
    else none
   else none
  else none
  else none
def m_page_compact_l0_b (s0 : ((List (ByteArray × (ByteArray × Unit))) → Int → Int → (List Int) → Option (List Int))) (u0_0 : (List (ByteArray × (ByteArray × Unit)))) (u0_1 : Int) (u0_2 : Int) (u0_3 : (List Int)) : Option (List Int) :=
  if (decide (u0_2 < u0_1)) = true then
  if (0 : Int) ≤ u0_2 then
   if u0_2 < (u0_0.length : Int) then
    let v6 := (rd (.pair .str (.pair .str .nl)) u0_0 u0_2)
    Option.bind (m_page_record u0_3 v6.1 v6.2.1) fun r7 =>
    s0 u0_0 u0_1 (IntKind.i64.wrap (u0_2 + (1 : Int))) r7
   else none
  else none
  else
  some u0_3
def m_page_compact_l0 (N : Nat) : Nat → (List (ByteArray × (ByteArray × Unit))) → Int → Int → (List Int) → Option (List Int)
  | 0, _, _, _, _ => none
  | n + 1, u0_0, u0_1, u0_2, u0_3 => m_page_compact_l0_b (m_page_compact_l0 N n) u0_0 u0_1 u0_2 u0_3
def m_page_compact_a (l0 : ((List (ByteArray × (ByteArray × Unit))) → Int → Int → (List Int) → Option (List Int))) (x0 : (List Int)) (x1 : (List (ByteArray × (ByteArray × Unit)))) : Option (List Int) :=
  l0 x1 (x1.length : Int) (0 : Int) (List.set (List.set (splice x0 (20 : Int) (List.replicate 108 (0 : Int))) 9 (0 : Int)) 11 (128 : Int))
def m_page_compact (x0 : (List Int)) (x1 : (List (ByteArray × (ByteArray × Unit)))) : Option (List Int) := m_page_compact_a (m_page_compact_l0 FUEL FUEL) x0 x1
def m_page_Of_l0_b (s0 : (Int → Int → (List (ByteArray × (ByteArray × Unit))) → Int → (List (ByteArray × (ByteArray × Unit))) → Int → Int → (List Int) → (List Int) → Option ((List Int) × Int))) (u0_0 : Int) (u0_1 : Int) (u0_2 : (List (ByteArray × (ByteArray × Unit)))) (u0_3 : Int) (u0_4 : (List (ByteArray × (ByteArray × Unit)))) (u0_5 : Int) (u0_6 : Int) (u0_7 : (List Int)) (u0_8 : (List Int)) : Option ((List Int) × Int) :=
  if (decide (u0_6 < u0_5)) = true then
  if (0 : Int) ≤ u0_6 then
   if u0_6 < (u0_4.length : Int) then
    let v12 := (rd (.pair .str (.pair .str .nl)) u0_4 u0_6)
    Option.bind (m_page_allowed (u0_0 == (0 : Int)) u0_6 v12.1 v12.2.1) fun r14 =>
    if (r14 != (0 : Int)) = true then
     some ((List.replicate 128 (0 : Int)), r14)
    else
     if (decide (u0_6 > (0 : Int))) = true then
      let v18 := (IntKind.i64.wrap (u0_6 - (1 : Int)))
      if (0 : Int) ≤ v18 then
       if v18 < (u0_2.length : Int) then
        Option.bind (m_keys_Compare (rd (.pair .str (.pair .str .nl)) u0_2 v18).1 v12.1) fun r20 =>
        if (decide (r20 ≥ (0 : Int))) = true then
         some ((List.replicate 128 (0 : Int)), (13 : Int))
        else
         Option.bind (m_slot_Cost v12.1 v12.2.1) fun r23 =>
         s0 u0_0 u0_1 u0_2 (IntKind.i64.wrap (u0_3 + r23)) u0_4 u0_5 (IntKind.i64.wrap (u0_6 + (1 : Int))) u0_7 u0_8
       else none
      else none
     else
      Option.bind (m_slot_Cost v12.1 v12.2.1) fun r26 =>
      s0 u0_0 u0_1 u0_2 (IntKind.i64.wrap (u0_3 + r26)) u0_4 u0_5 (IntKind.i64.wrap (u0_6 + (1 : Int))) u0_7 u0_8
   else none
  else none
  else
  if (decide (u0_3 > (108 : Int))) = true then
   some ((List.replicate 128 (0 : Int)), (7 : Int))
  else
   Option.bind (m_page_compact (List.set u0_8 10 (IntKind.u64.wrap u0_1)) u0_2) fun r33 =>
   some (r33, (0 : Int))
def m_page_Of_l0 (N : Nat) : Nat → Int → Int → (List (ByteArray × (ByteArray × Unit))) → Int → (List (ByteArray × (ByteArray × Unit))) → Int → Int → (List Int) → (List Int) → Option ((List Int) × Int)
  | 0, _, _, _, _, _, _, _, _, _ => none
  | n + 1, u0_0, u0_1, u0_2, u0_3, u0_4, u0_5, u0_6, u0_7, u0_8 => m_page_Of_l0_b (m_page_Of_l0 N n) u0_0 u0_1 u0_2 u0_3 u0_4 u0_5 u0_6 u0_7 u0_8
def m_page_Of_a (l0 : (Int → Int → (List (ByteArray × (ByteArray × Unit))) → Int → (List (ByteArray × (ByteArray × Unit))) → Int → Int → (List Int) → (List Int) → Option ((List Int) × Int))) (x0 : Int) (x1 : ByteArray) (x2 : ByteArray) (x3 : Int) (x4 : (List (ByteArray × (ByteArray × Unit)))) : Option ((List Int) × Int) :=
  Option.bind (m_slot_Make x0 x1 x2) fun r2 =>
  if (r2.2 != (0 : Int)) = true then
  some ((List.replicate 128 (0 : Int)), r2.2)
  else
  if (decide (x3 < (0 : Int))) = true then
   some ((List.replicate 128 (0 : Int)), (3 : Int))
  else
   if (decide (x3 > (511 : Int))) = true then
    some ((List.replicate 128 (0 : Int)), (3 : Int))
   else
    l0 x0 x3 x4 (0 : Int) x4 (x4.length : Int) (0 : Int) (List.replicate 128 (0 : Int)) r2.1
def m_page_Of (x0 : Int) (x1 : ByteArray) (x2 : ByteArray) (x3 : Int) (x4 : (List (ByteArray × (ByteArray × Unit)))) : Option ((List Int) × Int) := m_page_Of_a (m_page_Of_l0 FUEL FUEL) x0 x1 x2 x3 x4
end Go.Ev.M
