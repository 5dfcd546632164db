/- A part of the proof of a statement of this seat: the plain models of the functions. No condition. -/
import Derived.Test.YthbmjicmhikpgaaM14
import Derived.Test.YthbmjicmhikpgaaM15
import Derived.Test.YthbmjicmhikpgaaM19
set_option linter.unusedVariables false
namespace Go.Ev.M
open Go Go.Ev
def m_split_sorted (x0 : (List Int)) : Option ((List (ByteArray × (ByteArray × Unit))) × Int) :=
  Option.bind (m_slot_Pairs x0) fun r1 =>
  if (r1.2 != (0 : Int)) = true then
  some (([] : List (ByteArray × (ByteArray × Unit))), r1.2)
  else
  Option.bind (m_search_Sorted x0) fun r3 =>
  if (!r3) = true then
   some (([] : List (ByteArray × (ByteArray × Unit))), (13 : Int))
  else
   some (r1.1, (0 : Int))
def m_split_place_l1_b (s1 : ((List (ByteArray × (ByteArray × Unit))) → Int → Int → Int → Int → (List Int) → Option Int)) (u1_0 : (List (ByteArray × (ByteArray × Unit)))) (u1_1 : Int) (u1_2 : Int) (u1_3 : Int) (u1_4 : Int) (u1_5 : (List Int)) : Option Int :=
  if (decide (u1_4 < (u1_0.length : Int))) = true then
  if (0 : Int) ≤ u1_4 then
   if u1_4 < (u1_5.length : Int) then
    let v20 := (IntKind.i64.wrap ((IntKind.i64.wrap ((2 : Int) * (rd (.int .i64) u1_5 u1_4))) - u1_1))
    if (decide (v20 < (0 : Int))) = true then
     let v22 := (IntKind.i64.wrap ((0 : Int) - v20))
     if (decide (v22 < u1_2)) = true then
      s1 u1_0 u1_1 v22 u1_4 (IntKind.i64.wrap (u1_4 + (1 : Int))) u1_5
     else
      s1 u1_0 u1_1 u1_2 u1_3 (IntKind.i64.wrap (u1_4 + (1 : Int))) u1_5
    else
     if (decide (v20 < u1_2)) = true then
      s1 u1_0 u1_1 v20 u1_4 (IntKind.i64.wrap (u1_4 + (1 : Int))) u1_5
     else
      s1 u1_0 u1_1 u1_2 u1_3 (IntKind.i64.wrap (u1_4 + (1 : Int))) u1_5
   else none
  else none
  else
  some u1_3
def m_split_place_l1 (N : Nat) : Nat → (List (ByteArray × (ByteArray × Unit))) → Int → Int → Int → Int → (List Int) → Option Int
  | 0, _, _, _, _, _, _ => none
  | n + 1, u1_0, u1_1, u1_2, u1_3, u1_4, u1_5 => m_split_place_l1_b (m_split_place_l1 N n) u1_0 u1_1 u1_2 u1_3 u1_4 u1_5
def m_split_place_l0_b (s0 : ((List (ByteArray × (ByteArray × Unit))) → (List (ByteArray × (ByteArray × Unit))) → Int → Int → (List Int) → Option Int)) (l1 : ((List (ByteArray × (ByteArray × Unit))) → Int → Int → Int → Int → (List Int) → Option Int)) (u0_0 : (List (ByteArray × (ByteArray × Unit)))) (u0_1 : (List (ByteArray × (ByteArray × Unit)))) (u0_2 : Int) (u0_3 : Int) (u0_4 : (List Int)) : Option Int :=
  if (decide (u0_3 < u0_2)) = true then
  if (0 : Int) ≤ u0_3 then
   if u0_3 < (u0_1.length : Int) then
    let v6 := (rd (.pair .str (.pair .str .nl)) u0_1 u0_3)
    let v7 := (IntKind.i64.wrap (u0_3 + (1 : Int)))
    if (0 : Int) ≤ u0_3 then
     if u0_3 < (u0_4.length : Int) then
      Option.bind (m_slot_Cost v6.1 v6.2.1) fun r9 =>
      if (0 : Int) ≤ v7 then
       if v7 < (u0_4.length : Int) then
        s0 u0_0 u0_1 u0_2 (IntKind.i64.wrap (u0_3 + (1 : Int))) (List.set u0_4 v7.toNat (IntKind.i64.wrap ((rd (.int .i64) u0_4 u0_3) + r9)))
       else none
      else none
     else none
    else none
   else none
  else none
  else
  let v13 := (u0_0.length : Int)
  if (0 : Int) ≤ v13 then
   if v13 < (u0_4.length : Int) then
    let v14 := (rd (.int .i64) u0_4 v13)
    l1 u0_0 v14 (IntKind.i64.wrap (v14 + (1 : Int))) (0 : Int) (1 : Int) u0_4
   else none
  else none
def m_split_place_l0 (N : Nat) : Nat → (List (ByteArray × (ByteArray × Unit))) → (List (ByteArray × (ByteArray × Unit))) → Int → Int → (List Int) → Option Int
  | 0, _, _, _, _, _ => none
  | n + 1, u0_0, u0_1, u0_2, u0_3, u0_4 => m_split_place_l0_b (m_split_place_l0 N n) (m_split_place_l1 N N) u0_0 u0_1 u0_2 u0_3 u0_4
def m_split_place_a (l0 : ((List (ByteArray × (ByteArray × Unit))) → (List (ByteArray × (ByteArray × Unit))) → Int → Int → (List Int) → Option Int)) (x0 : (List (ByteArray × (ByteArray × Unit)))) : Option Int :=
  let v2 := (IntKind.i64.wrap ((x0.length : Int) + (1 : Int)))
  if (0 : Int) ≤ v2 then
  if v2 ≤ v2 then
   if fits v2.toNat 8 then
    l0 x0 x0 (x0.length : Int) (0 : Int) (List.replicate v2.toNat (0 : Int))
   else none
  else none
  else none
def m_split_place (x0 : (List (ByteArray × (ByteArray × Unit)))) : Option Int := m_split_place_a (m_split_place_l0 FUEL FUEL) x0
def m_split_At (x0 : (List Int)) : Option (Int × Int) :=
  Option.bind (m_split_sorted x0) fun r1 =>
  if (r1.2 != (0 : Int)) = true then
  some ((0 : Int), r1.2)
  else
  if (decide ((r1.1.length : Int) < (2 : Int))) = true then
   some ((0 : Int), (9 : Int))
  else
   Option.bind (m_split_place r1.1) fun r5 =>
   some (r5, (0 : Int))
def m_ticketlinelaw17_places (x0 : (List Int)) (x1 : Int) (x2 : Int) : Option Bool :=
  Option.bind (m_split_At x0) fun r1 =>
  if (r1.1 == x1) = true then
  some (r1.2 == x2)
  else
  some false
def m_page_Number (x0 : Int) : Option (ByteArray × Int) :=
  if (decide (x0 < (1 : Int))) = true then
  some ((⟨#[]⟩ : ByteArray), (2 : Int))
  else
  if (decide (x0 > (511 : Int))) = true then
   some ((⟨#[]⟩ : ByteArray), (2 : Int))
  else
   some ((strOf ([(0 : Int), (0 : Int), (0 : Int), (0 : Int), (0 : Int), (0 : Int), (IntKind.u8.wrap (shrI .i64 x0 (8 : Int))), (IntKind.u8.wrap x0)] : List Int)), (0 : Int))
def m_page_child (x0 : ByteArray) : Option Bool :=
  if ((x0.size : Int) != (8 : Int)) = true then
  some false
  else
  if (6 : Int) < (x0.size : Int) then
   if (7 : Int) < (x0.size : Int) then
    Option.bind (m_page_Number (bor .i64 (shlI .i64 (IntKind.i64.wrap (bt x0 (6 : Int))) (8 : Int)) (IntKind.i64.wrap (bt x0 (7 : Int))))) fun r8 =>
    if (r8.2 == (0 : Int)) = true then
     some (strEq r8.1 x0)
    else
     some false
   else none
  else none
def m_page_allowed (x0 : Bool) (x1 : Int) (x2 : ByteArray) (x3 : ByteArray) : Option Int :=
  if (strEq x2 (⟨#[]⟩ : ByteArray)) = true then
  if x0 = true then
   some (2 : Int)
  else
   if (decide (x1 > (0 : Int))) = true then
    some (2 : Int)
   else
    if (!x0) = true then
     Option.bind (m_page_child x3) fun r3 =>
     if (!r3) = true then
      some (2 : Int)
     else
      if (decide ((x2.size : Int) > (24 : Int))) = true then
       some (5 : Int)
      else
       Option.bind (m_keys_ValidValue x3) fun r5 =>
       if (!r5) = true then
        some (5 : Int)
       else
        some (0 : Int)
    else
     if (decide ((x2.size : Int) > (24 : Int))) = true then
      some (5 : Int)
     else
      Option.bind (m_keys_ValidValue x3) fun r7 =>
      if (!r7) = true then
       some (5 : Int)
      else
       some (0 : Int)
  else
  if (!x0) = true then
   Option.bind (m_page_child x3) fun r8 =>
   if (!r8) = true then
    some (2 : Int)
   else
    if (decide ((x2.size : Int) > (24 : Int))) = true then
     some (5 : Int)
    else
     Option.bind (m_keys_ValidValue x3) fun r10 =>
     if (!r10) = true then
      some (5 : Int)
     else
      some (0 : Int)
  else
   if (decide ((x2.size : Int) > (24 : Int))) = true then
    some (5 : Int)
   else
    Option.bind (m_keys_ValidValue x3) fun r12 =>
    if (!r12) = true then
     some (5 : Int)
    else
     some (0 : Int)
def m_page_record (x0 : (List Int)) (x1 : ByteArray) (x2 : ByteArray) : Option (List Int) :=
  Option.bind (m_keys_Pack x1) fun r1 =>
  Option.bind (m_keys_Pack x2) fun r2 =>
  let v9 := (List.set x0 11 (IntKind.u64.wrap ((rd (.int .u64) x0 (11 : Int)) - (IntKind.u64.wrap (IntKind.i64.wrap ((r1.1.length : Int) + (r2.1.length : Int)))))))
  let v10 := (rd (.int .u64) v9 (11 : Int))
  if (0 : Int) ≤ v10 then
  if v10 ≤ (128 : Int) then
   let v11 := ((128 : Int) - v10)
   let v16 := (IntKind.i64.wrap ((IntKind.i64.wrap v10) + (r1.1.length : Int)))
   if (0 : Int) ≤ v16 then
    if v16 ≤ (128 : Int) then
     let v17 := ((128 : Int) - v16)
     let v18 := (splice (splice v9 v10 (List.take v11.toNat r1.1)) v16 (List.take v17.toNat r2.1))
     let v21 := (IntKind.u64.wrap ((20 : Int) + (rd (.int .u64) v18 (9 : Int))))
     if (0 : Int) ≤ v21 then
      if v21 < (128 : Int) then
       let v28 := (List.set v18 v21.toNat (bor .u64 (bor .u64 (shlI .u64 v10 (16 : Int)) (shlI .u64 (IntKind.u64.wrap (x1.size : Int)) (8 : Int))) (IntKind.u64.wrap (x2.size : Int))))
       some (List.set v28 9 (IntKind.u64.wrap ((rd (.int .u64) v28 (9 : Int)) + (1 : Int))))
      else none
     else none
    else none
   else none
  else none
  else none
def m_page_compact_l0_b (s0 : ((List (ByteArray × (ByteArray × Unit))) → Int → Int → (List Int) → Option (List Int))) (u0_0 : (List (ByteArray × (ByteArray × Unit)))) (u0_1 : Int) (u0_2 : Int) (u0_3 : (List Int)) : Option (List Int) :=
  if (decide (u0_2 < u0_1)) = true then
  if (0 : Int) ≤ u0_2 then
   if u0_2 < (u0_0.length : Int) then
    let v6 := (rd (.pair .str (.pair .str .nl)) u0_0 u0_2)
    Option.bind (m_page_record u0_3 v6.1 v6.2.1) fun r7 =>
    s0 u0_0 u0_1 (IntKind.i64.wrap (u0_2 + (1 : Int))) r7
   else none
  else none
  else
  some u0_3
def m_page_compact_l0 (N : Nat) : Nat → (List (ByteArray × (ByteArray × Unit))) → Int → Int → (List Int) → Option (List Int)
  | 0, _, _, _, _ => none
  | n + 1, u0_0, u0_1, u0_2, u0_3 => m_page_compact_l0_b (m_page_compact_l0 N n) u0_0 u0_1 u0_2 u0_3
def m_page_compact_a (l0 : ((List (ByteArray × (ByteArray × Unit))) → Int → Int → (List Int) → Option (List Int))) (x0 : (List Int)) (x1 : (List (ByteArray × (ByteArray × Unit)))) : Option (List Int) :=
  l0 x1 (x1.length : Int) (0 : Int) (List.set (List.set (splice x0 (20 : Int) (List.replicate 108 (0 : Int))) 9 (0 : Int)) 11 (128 : Int))
def m_page_compact (x0 : (List Int)) (x1 : (List (ByteArray × (ByteArray × Unit)))) : Option (List Int) := m_page_compact_a (m_page_compact_l0 FUEL FUEL) x0 x1
def m_page_Of_l0_b (s0 : (Int → Int → (List (ByteArray × (ByteArray × Unit))) → Int → (List (ByteArray × (ByteArray × Unit))) → Int → Int → (List Int) → (List Int) → Option ((List Int) × Int))) (u0_0 : Int) (u0_1 : Int) (u0_2 : (List (ByteArray × (ByteArray × Unit)))) (u0_3 : Int) (u0_4 : (List (ByteArray × (ByteArray × Unit)))) (u0_5 : Int) (u0_6 : Int) (u0_7 : (List Int)) (u0_8 : (List Int)) : Option ((List Int) × Int) :=
  if (decide (u0_6 < u0_5)) = true then
  if (0 : Int) ≤ u0_6 then
   if u0_6 < (u0_4.length : Int) then
    let v12 := (rd (.pair .str (.pair .str .nl)) u0_4 u0_6)
    Option.bind (m_page_allowed (u0_0 == (0 : Int)) u0_6 v12.1 v12.2.1) fun r14 =>
    if (r14 != (0 : Int)) = true then
     some ((List.replicate 128 (0 : Int)), r14)
    else
     if (decide (u0_6 > (0 : Int))) = true then
      let v18 := (IntKind.i64.wrap (u0_6 - (1 : Int)))
      if (0 : Int) ≤ v18 then
       if v18 < (u0_2.length : Int) then
        Option.bind (m_keys_Compare (rd (.pair .str (.pair .str .nl)) u0_2 v18).1 v12.1) fun r20 =>
        if (decide (r20 ≥ (0 : Int))) = true then
         some ((List.replicate 128 (0 : Int)), (13 : Int))
        else
         Option.bind (m_slot_Cost v12.1 v12.2.1) fun r23 =>
         s0 u0_0 u0_1 u0_2 (IntKind.i64.wrap (u0_3 + r23)) u0_4 u0_5 (IntKind.i64.wrap (u0_6 + (1 : Int))) u0_7 u0_8
       else none
      else none
     else
      Option.bind (m_slot_Cost v12.1 v12.2.1) fun r26 =>
      s0 u0_0 u0_1 u0_2 (IntKind.i64.wrap (u0_3 + r26)) u0_4 u0_5 (IntKind.i64.wrap (u0_6 + (1 : Int))) u0_7 u0_8
   else none
  else none
  else
  if (decide (u0_3 > (108 : Int))) = true then
   some ((List.replicate 128 (0 : Int)), (7 : Int))
  else
   Option.bind (m_page_compact (List.set u0_8 10 (IntKind.u64.wrap u0_1)) u0_2) fun r33 =>
   some (r33, (0 : Int))
def m_page_Of_l0 (N : Nat) : Nat → Int → Int → (List (ByteArray × (ByteArray × Unit))) → Int → (List (ByteArray × (ByteArray × Unit))) → Int → Int → (List Int) → (List Int) → Option ((List Int) × Int)
  | 0, _, _, _, _, _, _, _, _, _ => none
  | n + 1, u0_0, u0_1, u0_2, u0_3, u0_4, u0_5, u0_6, u0_7, u0_8 => m_page_Of_l0_b (m_page_Of_l0 N n) u0_0 u0_1 u0_2 u0_3 u0_4 u0_5 u0_6 u0_7 u0_8
def m_page_Of_a (l0 : (Int → Int → (List (ByteArray × (ByteArray × Unit))) → Int → (List (ByteArray × (ByteArray × Unit))) → Int → Int → (List Int) → (List Int) → Option ((List Int) × Int))) (x0 : Int) (x1 : ByteArray) (x2 : ByteArray) (x3 : Int) (x4 : (List (ByteArray × (ByteArray × Unit)))) : Option ((List Int) × Int) :=
  Option.bind (m_slot_Make x0 x1 x2) fun r2 =>
  if (r2.2 != (0 : Int)) = true then
  some ((List.replicate 128 (0 : Int)), r2.2)
  else
  if (decide (x3 < (0 : Int))) = true then
   some ((List.replicate 128 (0 : Int)), (3 : Int))
  else
   if (decide (x3 > (511 : Int))) = true then
    some ((List.replicate 128 (0 : Int)), (3 : Int))
   else
    l0 x0 x3 x4 (0 : Int) x4 (x4.length : Int) (0 : Int) (List.replicate 128 (0 : Int)) r2.1
def m_page_Of (x0 : Int) (x1 : ByteArray) (x2 : ByteArray) (x3 : Int) (x4 : (List (ByteArray × (ByteArray × Unit)))) : Option ((List Int) × Int) := m_page_Of_a (m_page_Of_l0 FUEL FUEL) x0 x1 x2 x3 x4
def m_split_Split (x0 : (List Int)) (x1 : Int) : Option ((List Int) × (List Int) × ByteArray × Int) :=
  let v3 := (List.replicate 128 (0 : Int))
  Option.bind (m_split_sorted x0) fun r4 =>
  if (r4.2 != (0 : Int)) = true then
  some (v3, v3, (⟨#[]⟩ : ByteArray), r4.2)
  else
  if (decide (x1 < (1 : Int))) = true then
   some (v3, v3, (⟨#[]⟩ : ByteArray), (2 : Int))
  else
   if (decide (x1 > (511 : Int))) = true then
    some (v3, v3, (⟨#[]⟩ : ByteArray), (2 : Int))
   else
    if (decide ((r4.1.length : Int) < (2 : Int))) = true then
     some (v3, v3, (⟨#[]⟩ : ByteArray), (9 : Int))
    else
     Option.bind (m_split_place r4.1) fun r10 =>
     if (0 : Int) ≤ r10 then
      if r10 < (r4.1.length : Int) then
       let v11 := (rd (.pair .str (.pair .str .nl)) r4.1 r10).1
       Option.bind (m_slot_Fences x0) fun r12 =>
       if (r12.2.2 != (0 : Int)) = true then
        some (v3, v3, (⟨#[]⟩ : ByteArray), r12.2.2)
       else
        Option.bind (m_slot_Level x0) fun r14 =>
        if (0 : Int) ≤ r10 then
         if r10 ≤ (r4.1.length : Int) then
          if (0 : Int) ≤ r10 then
           Option.bind (m_page_Of r14 r12.1 v11 x1 (win r4.1 (0 : Int) (r10 - (0 : Int)))) fun r16 =>
           if (r16.2 != (0 : Int)) = true then
            some (v3, v3, (⟨#[]⟩ : ByteArray), r16.2)
           else
            Option.bind (m_slot_Level x0) fun r18 =>
            Option.bind (m_slot_Next x0) fun r19 =>
            if (0 : Int) ≤ (r4.1.length : Int) then
             if (r4.1.length : Int) ≤ (r4.1.length : Int) then
              if (0 : Int) ≤ r10 then
               if r10 ≤ (r4.1.length : Int) then
                Option.bind (m_page_Of r18 v11 r12.2.1 r19 (win r4.1 r10 ((r4.1.length : Int) - r10))) fun r21 =>
                if (r21.2 != (0 : Int)) = true then
                 some (v3, v3, (⟨#[]⟩ : ByteArray), r21.2)
                else
                 some ((splice r16.1 (0 : Int) (List.take 8 (win x0 (0 : Int) (8 : Int)))), r21.1, v11, (0 : Int))
               else none
              else none
             else none
            else none
          else none
         else none
        else none
      else none
     else none
def m_ticketlinelaw17_splits (x0 : (List Int)) (x1 : Int) (x2 : (List Int)) (x3 : (List Int)) (x4 : ByteArray) (x5 : Int) : Option Bool :=
  Option.bind (m_split_Split x0 x1) fun r1 =>
  if (Ty.beq (.arr 128 (.int .u64)) r1.1 x2) = true then
  if (Ty.beq (.arr 128 (.int .u64)) r1.2.1 x3) = true then
   if (strEq r1.2.2.1 x4) = true then
    some (r1.2.2.2 == x5)
   else
    some false
  else
   some false
  else
  some false
def m_split_Root (x0 : Int) (x1 : Int) (x2 : Int) (x3 : ByteArray) : Option ((List Int) × Int) :=
  Option.bind (m_page_Number x1) fun r2 =>
  Option.bind (m_page_Number x2) fun r3 =>
  if (decide (x0 < (1 : Int))) = true then
  some ((List.replicate 128 (0 : Int)), (2 : Int))
  else
  if (decide (x0 ≥ (6 : Int))) = true then
   some ((List.replicate 128 (0 : Int)), (2 : Int))
  else
   if (r2.2 != (0 : Int)) = true then
    some ((List.replicate 128 (0 : Int)), (2 : Int))
   else
    if (r3.2 != (0 : Int)) = true then
     some ((List.replicate 128 (0 : Int)), (2 : Int))
    else
     if (x1 == x2) = true then
      some ((List.replicate 128 (0 : Int)), (2 : Int))
     else
      if (strEq x3 (⟨#[]⟩ : ByteArray)) = true then
       some ((List.replicate 128 (0 : Int)), (2 : Int))
      else
       if (decide ((x3.size : Int) > (24 : Int))) = true then
        some ((List.replicate 128 (0 : Int)), (5 : Int))
       else
        Option.bind (m_page_Of x0 (⟨#[]⟩ : ByteArray) (⟨#[]⟩ : ByteArray) (0 : Int) ([((⟨#[]⟩ : ByteArray), (r2.1, ())), (x3, (r3.1, ()))] : List (ByteArray × (ByteArray × Unit)))) fun r18 =>
        some (r18.1, r18.2)
def m_ticketlinelaw17_roots (x0 : Int) (x1 : Int) (x2 : Int) (x3 : ByteArray) (x4 : (List Int)) (x5 : Int) : Option Bool :=
  Option.bind (m_split_Root x0 x1 x2 x3) fun r1 =>
  if (Ty.beq (.arr 128 (.int .u64)) r1.1 x4) = true then
  some (r1.2 == x5)
  else
  some false
def m_ticketlinelaw17_known : Option Bool :=
  Option.bind (m_ticketlineref16_Of (0 : Int) (⟨#[97]⟩ : ByteArray) (⟨#[122]⟩ : ByteArray) (9 : Int) ([((⟨#[98]⟩ : ByteArray), ((⟨#[49]⟩ : ByteArray), ())), ((⟨#[100]⟩ : ByteArray), ((⟨#[50]⟩ : ByteArray), ())), ((⟨#[102]⟩ : ByteArray), ((⟨#[51]⟩ : ByteArray), ()))] : List (ByteArray × (ByteArray × Unit)))) fun r2 =>
  Option.bind (m_ticketlineref16_Of (0 : Int) (⟨#[97]⟩ : ByteArray) (⟨#[122]⟩ : ByteArray) (9 : Int) ([((⟨#[98]⟩ : ByteArray), ((⟨#[49, 50, 51, 52, 53, 54, 55, 56, 57, 48, 49, 50, 51, 52, 53, 54, 55, 56, 57, 48, 49, 50, 51, 52, 53, 54, 55, 56, 57, 48, 49, 50, 51, 52, 53, 54, 55, 56, 57, 48]⟩ : ByteArray), ())), ((⟨#[100]⟩ : ByteArray), ((⟨#[50]⟩ : ByteArray), ())), ((⟨#[102]⟩ : ByteArray), ((⟨#[51]⟩ : ByteArray), ()))] : List (ByteArray × (ByteArray × Unit)))) fun r5 =>
  if (r2.2 != (0 : Int)) = true then
  some false
  else
  if (r5.2 != (0 : Int)) = true then
   some false
  else
   Option.bind (m_ticketlinelaw17_places r2.1 (1 : Int) (0 : Int)) fun r9 =>
   if (!r9) = true then
    some false
   else
    Option.bind (m_ticketlinelaw17_places r5.1 (1 : Int) (0 : Int)) fun r10 =>
    if (!r10) = true then
     some false
    else
     Option.bind (m_ticketlineref16_Of (0 : Int) (⟨#[97]⟩ : ByteArray) (⟨#[100]⟩ : ByteArray) (4 : Int) ([((⟨#[98]⟩ : ByteArray), ((⟨#[49]⟩ : ByteArray), ()))] : List (ByteArray × (ByteArray × Unit)))) fun r12 =>
     Option.bind (m_ticketlineref16_Of (0 : Int) (⟨#[100]⟩ : ByteArray) (⟨#[122]⟩ : ByteArray) (9 : Int) ([((⟨#[100]⟩ : ByteArray), ((⟨#[50]⟩ : ByteArray), ())), ((⟨#[102]⟩ : ByteArray), ((⟨#[51]⟩ : ByteArray), ()))] : List (ByteArray × (ByteArray × Unit)))) fun r15 =>
     Option.bind (m_ticketlinelaw17_splits r2.1 (4 : Int) r12.1 r15.1 (⟨#[100]⟩ : ByteArray) (0 : Int)) fun r17 =>
     if (!r17) = true then
      some false
     else
      Option.bind (m_split_Root (1 : Int) (3 : Int) (4 : Int) (⟨#[109]⟩ : ByteArray)) fun r18 =>
      Option.bind (m_slot_Child r18.1 (0 : Int)) fun r20 =>
      Option.bind (m_slot_Child r18.1 (1 : Int)) fun r21 =>
      Option.bind (m_slot_Key r18.1 (1 : Int)) fun r22 =>
      if (r18.2 != (0 : Int)) = true then
       some false
      else
       if (r20.2 != (0 : Int)) = true then
        some false
       else
        if (r21.2 != (0 : Int)) = true then
         some false
        else
         if (r22.2 != (0 : Int)) = true then
          some false
         else
          Option.bind (m_slot_Len r18.1) fun r27 =>
          if (r27 != (2 : Int)) = true then
           some false
          else
           if (r20.1 != (3 : Int)) = true then
            some false
           else
            if (r21.1 != (4 : Int)) = true then
             some false
            else
             if (!strEq r22.1 (⟨#[109]⟩ : ByteArray)) = true then
              some false
             else
              Option.bind (m_ticketlineref16_Of (0 : Int) (⟨#[]⟩ : ByteArray) (⟨#[]⟩ : ByteArray) (0 : Int) ([((⟨#[98]⟩ : ByteArray), ((⟨#[49]⟩ : ByteArray), ()))] : List (ByteArray × (ByteArray × Unit)))) fun r33 =>
              let v35 := (List.replicate 128 (0 : Int))
              Option.bind (m_ticketlinelaw17_roots (0 : Int) (3 : Int) (4 : Int) (⟨#[109]⟩ : ByteArray) v35 (2 : Int)) fun r37 =>
              if r37 = true then
               Option.bind (m_ticketlinelaw17_roots (1 : Int) (3 : Int) (3 : Int) (⟨#[109]⟩ : ByteArray) v35 (2 : Int)) fun r38 =>
               if r38 = true then
                Option.bind (m_ticketlinelaw17_splits r2.1 (512 : Int) v35 v35 (⟨#[]⟩ : ByteArray) (2 : Int)) fun r39 =>
                if r39 = true then
                 Option.bind (m_ticketlinelaw17_places r33.1 (0 : Int) (9 : Int)) fun r40 =>
                 if r40 = true then
                  Option.bind (m_ticketlinelaw17_splits v35 (1 : Int) v35 v35 (⟨#[]⟩ : ByteArray) (12 : Int)) fun r41 =>
                  some r41
                 else
                  some false
                else
                 some false
               else
                some false
              else
               some false
def m_ticketlineref17_Place_l0_b (s0 : ((List (ByteArray × (ByteArray × Unit))) → Int → Int → Int → Option Int)) (u0_0 : (List (ByteArray × (ByteArray × Unit)))) (u0_1 : Int) (u0_2 : Int) (u0_3 : Int) : Option Int :=
  if (decide (u0_3 < (u0_0.length : Int))) = true then
  if (0 : Int) ≤ u0_3 then
   if u0_3 ≤ (u0_0.length : Int) then
    if (0 : Int) ≤ u0_3 then
     Option.bind (m_ticketlineref14_Sum (win u0_0 (0 : Int) (u0_3 - (0 : Int)))) fun r4 =>
     if (0 : Int) ≤ (u0_0.length : Int) then
      if (u0_0.length : Int) ≤ (u0_0.length : Int) then
       if (0 : Int) ≤ u0_3 then
        if u0_3 ≤ (u0_0.length : Int) then
         Option.bind (m_ticketlineref14_Sum (win u0_0 u0_3 ((u0_0.length : Int) - u0_3))) fun r6 =>
         let v7 := (IntKind.i64.wrap (r4 - r6))
         if (decide ((mx v7 (IntKind.i64.wrap ((0 : Int) - v7))) < u0_1)) = true then
          s0 u0_0 (mx v7 (IntKind.i64.wrap ((0 : Int) - v7))) u0_3 (IntKind.i64.wrap (u0_3 + (1 : Int)))
         else
          s0 u0_0 u0_1 u0_2 (IntKind.i64.wrap (u0_3 + (1 : Int)))
        else none
       else none
      else none
     else none
    else none
   else none
  else none
  else
  some u0_2
def m_ticketlineref17_Place_l0 (N : Nat) : Nat → (List (ByteArray × (ByteArray × Unit))) → Int → Int → Int → Option Int
  | 0, _, _, _, _ => none
  | n + 1, u0_0, u0_1, u0_2, u0_3 => m_ticketlineref17_Place_l0_b (m_ticketlineref17_Place_l0 N n) u0_0 u0_1 u0_2 u0_3
def m_ticketlineref17_Place_a (l0 : ((List (ByteArray × (ByteArray × Unit))) → Int → Int → Int → Option Int)) (x0 : (List (ByteArray × (ByteArray × Unit)))) : Option Int :=
  l0 x0 (1000 : Int) (0 : Int) (1 : Int)
def m_ticketlineref17_Place (x0 : (List (ByteArray × (ByteArray × Unit)))) : Option Int := m_ticketlineref17_Place_a (m_ticketlineref17_Place_l0 FUEL FUEL) x0
def m_ticketlinelaw17_SplitPlaces (x0 : (Int × (Int × (ByteArray × (ByteArray × ((List (ByteArray × (ByteArray × Unit))) × ((List Int) × ((List (Int × (Int × Unit))) × Unit)))))))) : Option Bool :=
  Option.bind (m_ticketlineref14_Plan_Page x0) fun r1 =>
  if (!r1.2) = true then
  Option.bind (m_ticketlinelaw17_known) fun r3 =>
  some r3
  else
  Option.bind (m_ticketlineref15_Bad r1.1) fun r4 =>
  if (r4 != (0 : Int)) = true then
   Option.bind (m_ticketlinelaw17_places r1.1 (0 : Int) r4) fun r6 =>
   if r6 = true then
    Option.bind (m_ticketlinelaw17_known) fun r7 =>
    some r7
   else
    some false
  else
   Option.bind (m_ticketlineref14_Pairs r1.1) fun r8 =>
   if (decide ((r8.length : Int) > (1 : Int))) = true then
    Option.bind (m_ticketlineref17_Place r8) fun r11 =>
    Option.bind (m_ticketlinelaw17_places r1.1 r11 (0 : Int)) fun r12 =>
    if r12 = true then
     Option.bind (m_ticketlinelaw17_known) fun r13 =>
     some r13
    else
     some false
   else
    Option.bind (m_ticketlinelaw17_places r1.1 (0 : Int) (9 : Int)) fun r14 =>
    if r14 = true then
     Option.bind (m_ticketlinelaw17_known) fun r15 =>
     some r15
    else
     some false
def m_ticketlineref17_Keep_l0_b (s0 : (Int → (List Int) → (List Int) → (List Int) → Option (List Int))) (u0_0 : Int) (u0_1 : (List Int)) (u0_2 : (List Int)) (u0_3 : (List Int)) : Option (List Int) :=
  if (decide (u0_0 < (8 : Int))) = true then
  if (0 : Int) ≤ u0_0 then
   if u0_0 < (128 : Int) then
    if (0 : Int) ≤ u0_0 then
     if u0_0 < (128 : Int) then
      s0 (IntKind.i64.wrap (u0_0 + (1 : Int))) (List.set u0_1 u0_0.toNat (rd (.int .u64) u0_2 u0_0)) u0_2 u0_3
     else none
    else none
   else none
  else none
  else
  some u0_1
def m_ticketlineref17_Keep_l0 (N : Nat) : Nat → Int → (List Int) → (List Int) → (List Int) → Option (List Int)
  | 0, _, _, _, _ => none
  | n + 1, u0_0, u0_1, u0_2, u0_3 => m_ticketlineref17_Keep_l0_b (m_ticketlineref17_Keep_l0 N n) u0_0 u0_1 u0_2 u0_3
def m_ticketlineref17_Keep_a (l0 : (Int → (List Int) → (List Int) → (List Int) → Option (List Int))) (x0 : (List Int)) (x1 : (List Int)) : Option (List Int) :=
  l0 (0 : Int) x0 x1 (List.replicate 128 (0 : Int))
def m_ticketlineref17_Keep (x0 : (List Int)) (x1 : (List Int)) : Option (List Int) := m_ticketlineref17_Keep_a (m_ticketlineref17_Keep_l0 FUEL FUEL) x0 x1
def m_ticketlineref17_Split (x0 : (List Int)) (x1 : Int) : Option ((List Int) × (List Int) × ByteArray × Int) :=
  Option.bind (m_ticketlineref15_Bad x0) fun r3 =>
  if (r3 != (0 : Int)) = true then
  some ((List.replicate 128 (0 : Int)), (List.replicate 128 (0 : Int)), (⟨#[]⟩ : ByteArray), r3)
  else
  Option.bind (m_ticketlineref14_Pairs x0) fun r7 =>
  if (decide (x1 < (1 : Int))) = true then
   some ((List.replicate 128 (0 : Int)), (List.replicate 128 (0 : Int)), (⟨#[]⟩ : ByteArray), (2 : Int))
  else
   if (decide (x1 > (511 : Int))) = true then
    some ((List.replicate 128 (0 : Int)), (List.replicate 128 (0 : Int)), (⟨#[]⟩ : ByteArray), (2 : Int))
   else
    if (decide ((r7.length : Int) < (2 : Int))) = true then
     some ((List.replicate 128 (0 : Int)), (List.replicate 128 (0 : Int)), (⟨#[]⟩ : ByteArray), (9 : Int))
    else
     Option.bind (m_ticketlineref17_Place r7) fun r18 =>
     Option.bind (m_ticketlineref14_Fences x0) fun r19 =>
     if (0 : Int) ≤ r18 then
      if r18 < (r7.length : Int) then
       let v20 := (rd (.pair .str (.pair .str .nl)) r7 r18).1
       if (strLt v20 r19.1 || strEq v20 r19.1) = true then
        some ((List.replicate 128 (0 : Int)), (List.replicate 128 (0 : Int)), (⟨#[]⟩ : ByteArray), (13 : Int))
       else
        if (!strEq r19.2 (⟨#[]⟩ : ByteArray)) = true then
         if (!strLt v20 r19.2) = true then
          some ((List.replicate 128 (0 : Int)), (List.replicate 128 (0 : Int)), (⟨#[]⟩ : ByteArray), (13 : Int))
         else
          let v30 := (IntKind.i64.wrap ((IntKind.i64.wrap (rd (.int .u64) x0 (8 : Int))) - (1 : Int)))
          if (0 : Int) ≤ r18 then
           if r18 ≤ (r7.length : Int) then
            if (0 : Int) ≤ r18 then
             Option.bind (m_ticketlineref16_Of v30 r19.1 v20 x1 (win r7 (0 : Int) (r18 - (0 : Int)))) fun r32 =>
             if (0 : Int) ≤ (r7.length : Int) then
              if (r7.length : Int) ≤ (r7.length : Int) then
               if (0 : Int) ≤ r18 then
                if r18 ≤ (r7.length : Int) then
                 Option.bind (m_ticketlineref16_Of v30 v20 r19.2 (IntKind.i64.wrap (rd (.int .u64) x0 (10 : Int))) (win r7 r18 ((r7.length : Int) - r18))) fun r37 =>
                 Option.bind (m_ticketlineref17_Keep r32.1 x0) fun r39 =>
                 some (r39, r37.1, v20, (0 : Int))
                else none
               else none
              else none
             else none
            else none
           else none
          else none
        else
         let v42 := (IntKind.i64.wrap ((IntKind.i64.wrap (rd (.int .u64) x0 (8 : Int))) - (1 : Int)))
         if (0 : Int) ≤ r18 then
          if r18 ≤ (r7.length : Int) then
           if (0 : Int) ≤ r18 then
            Option.bind (m_ticketlineref16_Of v42 r19.1 v20 x1 (win r7 (0 : Int) (r18 - (0 : Int)))) fun r44 =>
            if (0 : Int) ≤ (r7.length : Int) then
             if (r7.length : Int) ≤ (r7.length : Int) then
              if (0 : Int) ≤ r18 then
               if r18 ≤ (r7.length : Int) then
                Option.bind (m_ticketlineref16_Of v42 v20 r19.2 (IntKind.i64.wrap (rd (.int .u64) x0 (10 : Int))) (win r7 r18 ((r7.length : Int) - r18))) fun r49 =>
                Option.bind (m_ticketlineref17_Keep r44.1 x0) fun r51 =>
                some (r51, r49.1, v20, (0 : Int))
               else none
              else none
             else none
            else none
           else none
          else none
         else none
      else none
     else none
def m_ticketlinelaw17_SplitHalves (x0 : (Int × (Int × (ByteArray × (ByteArray × ((List (ByteArray × (ByteArray × Unit))) × ((List Int) × ((List (Int × (Int × Unit))) × Unit)))))))) (x1 : Int) : Option Bool :=
  Option.bind (m_ticketlineref14_Plan_Page x0) fun r1 =>
  if (!r1.2) = true then
  Option.bind (m_ticketlinelaw17_known) fun r3 =>
  some r3
  else
  Option.bind (m_ticketlineref17_Split r1.1 x1) fun r4 =>
  Option.bind (m_ticketlinelaw17_splits r1.1 x1 r4.1 r4.2.1 r4.2.2.1 r4.2.2.2) fun r7 =>
  if r7 = true then
   Option.bind (m_ticketlinelaw17_known) fun r8 =>
   some r8
  else
   some false
def m_ticketlinelaw17_SplitRoots (x0 : Int) (x1 : Int) (x2 : Int) (x3 : ByteArray) : Option Bool :=
  if (decide ((x3.size : Int) > (60 : Int))) = true then
  Option.bind (m_ticketlinelaw17_known) fun r2 =>
  some r2
  else
  let v3 := (List.replicate 128 (0 : Int))
  if (decide (x0 < (1 : Int))) = true then
   Option.bind (m_ticketlinelaw17_roots x0 x1 x2 x3 v3 (2 : Int)) fun r5 =>
   if r5 = true then
    Option.bind (m_ticketlinelaw17_known) fun r6 =>
    some r6
   else
    some false
  else
   if (decide (x0 > (5 : Int))) = true then
    Option.bind (m_ticketlinelaw17_roots x0 x1 x2 x3 v3 (2 : Int)) fun r8 =>
    if r8 = true then
     Option.bind (m_ticketlinelaw17_known) fun r9 =>
     some r9
    else
     some false
   else
    if (decide (x1 < (1 : Int))) = true then
     Option.bind (m_ticketlinelaw17_roots x0 x1 x2 x3 v3 (2 : Int)) fun r11 =>
     if r11 = true then
      Option.bind (m_ticketlinelaw17_known) fun r12 =>
      some r12
     else
      some false
    else
     if (decide (x1 > (511 : Int))) = true then
      Option.bind (m_ticketlinelaw17_roots x0 x1 x2 x3 v3 (2 : Int)) fun r14 =>
      if r14 = true then
       Option.bind (m_ticketlinelaw17_known) fun r15 =>
       some r15
      else
       some false
     else
      if (decide (x2 < (1 : Int))) = true then
       Option.bind (m_ticketlinelaw17_roots x0 x1 x2 x3 v3 (2 : Int)) fun r17 =>
       if r17 = true then
        Option.bind (m_ticketlinelaw17_known) fun r18 =>
        some r18
       else
        some false
      else
       if (decide (x2 > (511 : Int))) = true then
        Option.bind (m_ticketlinelaw17_roots x0 x1 x2 x3 v3 (2 : Int)) fun r20 =>
        if r20 = true then
         Option.bind (m_ticketlinelaw17_known) fun r21 =>
         some r21
        else
         some false
       else
        if (x1 == x2) = true then
         Option.bind (m_ticketlinelaw17_roots x0 x1 x2 x3 v3 (2 : Int)) fun r22 =>
         if r22 = true then
          Option.bind (m_ticketlinelaw17_known) fun r23 =>
          some r23
         else
          some false
        else
         if (strEq x3 (⟨#[]⟩ : ByteArray)) = true then
          Option.bind (m_ticketlinelaw17_roots x0 x1 x2 x3 v3 (2 : Int)) fun r25 =>
          if r25 = true then
           Option.bind (m_ticketlinelaw17_known) fun r26 =>
           some r26
          else
           some false
         else
          if (decide ((x3.size : Int) > (24 : Int))) = true then
           Option.bind (m_ticketlinelaw17_roots x0 x1 x2 x3 v3 (5 : Int)) fun r28 =>
           if r28 = true then
            Option.bind (m_ticketlinelaw17_known) fun r29 =>
            some r29
           else
            some false
          else
           Option.bind (m_ticketlineref16_Number x1) fun r30 =>
           Option.bind (m_ticketlineref16_Number x2) fun r31 =>
           Option.bind (m_ticketlineref16_Of x0 (⟨#[]⟩ : ByteArray) (⟨#[]⟩ : ByteArray) (0 : Int) ([((⟨#[]⟩ : ByteArray), (r30, ())), (x3, (r31, ()))] : List (ByteArray × (ByteArray × Unit)))) fun r33 =>
           Option.bind (m_ticketlinelaw17_roots x0 x1 x2 x3 r33.1 (0 : Int)) fun r35 =>
           if r35 = true then
            Option.bind (m_ticketlinelaw17_known) fun r36 =>
            some r36
           else
            some false
def m_ticketlinelaw17_SplitHolds (x0 : (Int × (Int × (ByteArray × (ByteArray × ((List (ByteArray × (ByteArray × Unit))) × ((List Int) × ((List (Int × (Int × Unit))) × Unit)))))))) (x1 : Int) : Option Bool :=
  Option.bind (m_ticketlineref14_Plan_Used x0) fun r1 =>
  if (!r1.2) = true then
  Option.bind (m_ticketlinelaw17_known) fun r3 =>
  some r3
  else
  Option.bind (m_split_Split r1.1 x1) fun r4 =>
  if (r4.2.2.2 != (0 : Int)) = true then
   if (Ty.beq (.arr 128 (.int .u64)) r4.1 (List.replicate 128 (0 : Int))) = true then
    if (Ty.beq (.arr 128 (.int .u64)) r4.2.1 (List.replicate 128 (0 : Int))) = true then
     if (strEq r4.2.2.1 (⟨#[]⟩ : ByteArray)) = true then
      Option.bind (m_ticketlinelaw17_known) fun r13 =>
      some r13
     else
      some false
    else
     some false
   else
    some false
  else
   Option.bind (m_ticketlineref14_Valid r4.1) fun r14 =>
   if (!r14) = true then
    some false
   else
    Option.bind (m_ticketlineref14_Valid r4.2.1) fun r15 =>
    if (!r15) = true then
     some false
    else
     Option.bind (m_ticketlineref15_Bad r4.1) fun r16 =>
     if (r16 != (0 : Int)) = true then
      some false
     else
      Option.bind (m_ticketlineref15_Bad r4.2.1) fun r18 =>
      if (r18 != (0 : Int)) = true then
       some false
      else
       if ((rd (.int .u64) r4.1 (8 : Int)) != (rd (.int .u64) r1.1 (8 : Int))) = true then
        some false
       else
        if ((rd (.int .u64) r4.2.1 (8 : Int)) != (rd (.int .u64) r1.1 (8 : Int))) = true then
         some false
        else
         Option.bind (m_ticketlineref14_Pairs r4.1) fun r24 =>
         Option.bind (m_ticketlineref14_Pairs r4.2.1) fun r25 =>
         Option.bind (m_ticketlineref14_Fences r1.1) fun r26 =>
         Option.bind (m_ticketlineref14_Fences r4.1) fun r27 =>
         Option.bind (m_ticketlineref14_Fences r4.2.1) fun r28 =>
         Option.bind (m_ticketlineref14_Sum r24) fun r29 =>
         Option.bind (m_ticketlineref14_Sum r25) fun r30 =>
         let v31 := (IntKind.i64.wrap (r29 - r30))
         if ((r24.length : Int) == (0 : Int)) = true then
          some false
         else
          if ((r25.length : Int) == (0 : Int)) = true then
           some false
          else
           if fits (List.length r24) 32 then
            if fits (List.length r24 + List.length r25) 32 then
             Option.bind (m_ticketlineref14_Pairs r1.1) fun r36 =>
             Option.bind (m_ticketlineref14_Same (r24 ++ r25) r36) fun r37 =>
             if (!r37) = true then
              some false
             else
              if (decide (v31 > (9 : Int))) = true then
               some false
              else
               if (decide (v31 < (-9 : Int))) = true then
                some false
               else
                Option.bind (m_ticketlineref14_Sum r24) fun r45 =>
                if ((IntKind.i64.wrap ((IntKind.i64.wrap ((IntKind.i64.wrap (rd (.int .u64) r4.1 (11 : Int))) - (20 : Int))) - (r24.length : Int))) != (IntKind.i64.wrap ((108 : Int) - r45))) = true then
                 some false
                else
                 Option.bind (m_ticketlineref14_Sum r25) fun r52 =>
                 if ((IntKind.i64.wrap ((IntKind.i64.wrap ((IntKind.i64.wrap (rd (.int .u64) r4.2.1 (11 : Int))) - (20 : Int))) - (r25.length : Int))) != (IntKind.i64.wrap ((108 : Int) - r52))) = true then
                  some false
                 else
                  if (strEq r27.1 r26.1) = true then
                   if (strEq r27.2 r4.2.2.1) = true then
                    if (strEq r28.1 r4.2.2.1) = true then
                     if (strEq r28.2 r26.2) = true then
                      if (0 : Int) < (r25.length : Int) then
                       if (strEq ((rd (.pair .str (.pair .str .nl)) r25 (0 : Int)).1) r4.2.2.1) = true then
                        if ((IntKind.i64.wrap (rd (.int .u64) r4.1 (10 : Int))) == x1) = true then
                         if ((rd (.int .u64) r4.2.1 (10 : Int)) == (rd (.int .u64) r1.1 (10 : Int))) = true then
                          Option.bind (m_ticketlinelaw17_known) fun r64 =>
                          some r64
                         else
                          some false
                        else
                         some false
                       else
                        some false
                      else none
                     else
                      some false
                    else
                     some false
                   else
                    some false
                  else
                   some false
            else none
           else none
def m_ticketlinelaw17_SplitAgain_l0_b (s0 : (Int → (List (List Int)) → Option Bool)) (u0_0 : Int) (u0_1 : (List (List Int))) : Option Bool :=
  if (decide ((u0_1.length : Int) > (0 : Int))) = true then
  if (decide (u0_0 < (500 : Int))) = true then
   if (0 : Int) < (u0_1.length : Int) then
    Option.bind (m_ticketlineref17_Split (rd (.arr 128 (.int .u64)) u0_1 (0 : Int)) u0_0) fun r14 =>
    if (0 : Int) < (u0_1.length : Int) then
     Option.bind (m_ticketlinelaw17_splits (rd (.arr 128 (.int .u64)) u0_1 (0 : Int)) u0_0 r14.1 r14.2.1 r14.2.2.1 r14.2.2.2) fun r18 =>
     if (!r18) = true then
      some false
     else
      if (0 : Int) ≤ (u0_1.length : Int) then
       if (u0_1.length : Int) ≤ (u0_1.length : Int) then
        if (1 : Int) ≤ (u0_1.length : Int) then
         let v19 := ((u0_1.length : Int) - (1 : Int))
         if (r14.2.2.2 == (0 : Int)) = true then
          let v21 := ([r14.1, r14.2.1] : List (List Int))
          if fits (List.length (win u0_1 (1 : Int) v19) + List.length v21) 1024 then
           s0 (IntKind.i64.wrap (u0_0 + (1 : Int))) ((win u0_1 (1 : Int) v19) ++ v21)
          else none
         else
          s0 (IntKind.i64.wrap (u0_0 + (1 : Int))) (win u0_1 (1 : Int) v19)
        else none
       else none
      else none
    else none
   else none
  else
   Option.bind (m_ticketlinelaw17_known) fun r25 =>
   some r25
  else
  Option.bind (m_ticketlinelaw17_known) fun r26 =>
  some r26
def m_ticketlinelaw17_SplitAgain_l0 (N : Nat) : Nat → Int → (List (List Int)) → Option Bool
  | 0, _, _ => none
  | n + 1, u0_0, u0_1 => m_ticketlinelaw17_SplitAgain_l0_b (m_ticketlinelaw17_SplitAgain_l0 N n) u0_0 u0_1
def m_ticketlinelaw17_SplitAgain_a (l0 : (Int → (List (List Int)) → Option Bool)) (x0 : (Int × (Int × (ByteArray × (ByteArray × ((List (ByteArray × (ByteArray × Unit))) × ((List Int) × ((List (Int × (Int × Unit))) × Unit)))))))) (x1 : Int) : Option Bool :=
  Option.bind (m_ticketlineref14_Plan_Used x0) fun r1 =>
  if (!r1.2) = true then
  Option.bind (m_ticketlinelaw17_known) fun r3 =>
  some r3
  else
  if (decide (x1 < (1 : Int))) = true then
   Option.bind (m_ticketlinelaw17_known) fun r5 =>
   some r5
  else
   if (decide (x1 > (400 : Int))) = true then
    Option.bind (m_ticketlinelaw17_known) fun r7 =>
    some r7
   else
    l0 (IntKind.i64.wrap x1) ([r1.1] : List (List Int))
def m_ticketlinelaw17_SplitAgain (x0 : (Int × (Int × (ByteArray × (ByteArray × ((List (ByteArray × (ByteArray × Unit))) × ((List Int) × ((List (Int × (Int × Unit))) × Unit)))))))) (x1 : Int) : Option Bool := m_ticketlinelaw17_SplitAgain_a (m_ticketlinelaw17_SplitAgain_l0 FUEL FUEL) x0 x1
end Go.Ev.M
