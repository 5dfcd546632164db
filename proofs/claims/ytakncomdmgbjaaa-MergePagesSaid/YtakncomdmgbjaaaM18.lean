/- A part of the proof of a statement of this seat: the plain models of the functions. No condition. -/
import Derived.Test.YtakncomdmgbjaaaM14
import Derived.Test.YtakncomdmgbjaaaM15
import Derived.Test.YtakncomdmgbjaaaM19
import Derived.Test.YtakncomdmgbjaaaM17
set_option linter.unusedVariables false
namespace Go.Ev.M
open Go Go.Ev
def m_merge_check (x0 : (List Int)) : Option Int :=
  Option.bind (m_slot_Valid x0) fun r1 =>
  if (!r1) = true then
  some (12 : Int)
  else
  Option.bind (m_search_Sorted x0) fun r2 =>
  if (!r2) = true then
   some (13 : Int)
  else
   some (0 : Int)
def m_merge_Poor (x0 : (List Int)) : Option (Bool × Int) :=
  Option.bind (m_merge_check x0) fun r1 =>
  if (r1 != (0 : Int)) = true then
  some (false, r1)
  else
  Option.bind (m_slot_Load x0) fun r3 =>
  some ((decide (r3.1 < (36 : Int))), r3.2)
def m_ticketlinelaw18_poor (x0 : (List Int)) (x1 : Bool) (x2 : Int) : Option Bool :=
  Option.bind (m_merge_Poor x0) fun r1 =>
  if (r1.1 == x1) = true then
  some (r1.2 == x2)
  else
  some false
def m_merge_every_l0_b (s0 : ((List Bool) → Int → Int → Option Bool)) (u0_0 : (List Bool)) (u0_1 : Int) (u0_2 : Int) : Option Bool :=
  if (decide (u0_2 < u0_1)) = true then
  if (0 : Int) ≤ u0_2 then
   if u0_2 < (u0_0.length : Int) then
    if (!(rd .bool u0_0 u0_2)) = true then
     some false
    else
     s0 u0_0 u0_1 (IntKind.i64.wrap (u0_2 + (1 : Int)))
   else none
  else none
  else
  some true
def m_merge_every_l0 (N : Nat) : Nat → (List Bool) → Int → Int → Option Bool
  | 0, _, _, _ => none
  | n + 1, u0_0, u0_1, u0_2 => m_merge_every_l0_b (m_merge_every_l0 N n) u0_0 u0_1 u0_2
def m_merge_every_a (l0 : ((List Bool) → Int → Int → Option Bool)) (x0 : (List Bool)) : Option Bool :=
  l0 x0 (x0.length : Int) (0 : Int)
def m_merge_every (x0 : (List Bool)) : Option Bool := m_merge_every_a (m_merge_every_l0 FUEL FUEL) x0
def m_merge_together_l1_b (s1 : (Int → Int → ByteArray → ByteArray → Int → ByteArray → ByteArray → Int → (List (ByteArray × (ByteArray × Unit))) → Option ((ByteArray × (ByteArray × ((List (ByteArray × (ByteArray × Unit))) × (Int × Unit)))) × Int))) (u1_0 : Int) (u1_1 : Int) (u1_2 : ByteArray) (u1_3 : ByteArray) (u1_4 : Int) (u1_5 : ByteArray) (u1_6 : ByteArray) (u1_7 : Int) (u1_8 : (List (ByteArray × (ByteArray × Unit)))) : Option ((ByteArray × (ByteArray × ((List (ByteArray × (ByteArray × Unit))) × (Int × Unit)))) × Int) :=
  if (decide (u1_1 < u1_0)) = true then
  if (0 : Int) ≤ u1_1 then
   if u1_1 < (u1_8.length : Int) then
    Option.bind (m_slot_Cost ((rd (.pair .str (.pair .str .nl)) u1_8 u1_1).1) ((rd (.pair .str (.pair .str .nl)) u1_8 u1_1).2.1)) fun r26 =>
    s1 u1_0 (IntKind.i64.wrap (u1_1 + (1 : Int))) u1_2 u1_3 u1_4 u1_5 u1_6 (IntKind.i64.wrap (u1_7 + r26)) u1_8
   else none
  else none
  else
  some ((u1_5, (u1_6, (u1_8, (u1_7, ())))), (0 : Int))
def m_merge_together_l1 (N : Nat) : Nat → Int → Int → ByteArray → ByteArray → Int → ByteArray → ByteArray → Int → (List (ByteArray × (ByteArray × Unit))) → Option ((ByteArray × (ByteArray × ((List (ByteArray × (ByteArray × Unit))) × (Int × Unit)))) × Int)
  | 0, _, _, _, _, _, _, _, _, _ => none
  | n + 1, u1_0, u1_1, u1_2, u1_3, u1_4, u1_5, u1_6, u1_7, u1_8 => m_merge_together_l1_b (m_merge_together_l1 N n) u1_0 u1_1 u1_2 u1_3 u1_4 u1_5 u1_6 u1_7 u1_8
def m_merge_together_l0_b (s0 : (Int → Int → (List Int) → (List Int) → ByteArray → ByteArray → Int → (List (List Int)) → Option ((ByteArray × (ByteArray × ((List (ByteArray × (ByteArray × Unit))) × (Int × Unit)))) × Int))) (l1 : (Int → Int → ByteArray → ByteArray → Int → ByteArray → ByteArray → Int → (List (ByteArray × (ByteArray × Unit))) → Option ((ByteArray × (ByteArray × ((List (ByteArray × (ByteArray × Unit))) × (Int × Unit)))) × Int))) (u0_0 : Int) (u0_1 : Int) (u0_2 : (List Int)) (u0_3 : (List Int)) (u0_4 : ByteArray) (u0_5 : ByteArray) (u0_6 : Int) (u0_7 : (List (List Int))) : Option ((ByteArray × (ByteArray × ((List (ByteArray × (ByteArray × Unit))) × (Int × Unit)))) × Int) :=
  if (decide (u0_1 < u0_0)) = true then
  if (0 : Int) ≤ u0_1 then
   if u0_1 < (u0_7.length : Int) then
    Option.bind (m_merge_check (rd (.arr 128 (.int .u64)) u0_7 u0_1)) fun r6 =>
    if (r6 != (0 : Int)) = true then
     some (((⟨#[]⟩ : ByteArray), ((⟨#[]⟩ : ByteArray), (([] : List (ByteArray × (ByteArray × Unit))), ((0 : Int), ())))), r6)
    else
     s0 u0_0 (IntKind.i64.wrap (u0_1 + (1 : Int))) u0_2 u0_3 u0_4 u0_5 u0_6 u0_7
   else none
  else none
  else
  Option.bind (m_slot_Fences u0_2) fun r9 =>
  Option.bind (m_slot_Fences u0_3) fun r10 =>
  Option.bind (m_slot_Pairs u0_2) fun r11 =>
  Option.bind (m_slot_Pairs u0_3) fun r12 =>
  if ((r11.1.length : Int) == (0 : Int)) = true then
   Option.bind (m_slot_Level u0_2) fun r15 =>
   Option.bind (m_slot_Level u0_3) fun r16 =>
   Option.bind (m_merge_every ([(r15 == r16), (!strEq r9.2.1 (⟨#[]⟩ : ByteArray)), (strEq r9.2.1 r10.1), true] : List Bool)) fun r20 =>
   if (!r20) = true then
    some (((⟨#[]⟩ : ByteArray), ((⟨#[]⟩ : ByteArray), (([] : List (ByteArray × (ByteArray × Unit))), ((0 : Int), ())))), (2 : Int))
   else
    if fits (List.length r11.1 + List.length r12.1) 32 then
     let v21 := (r11.1 ++ r12.1)
     l1 (v21.length : Int) (0 : Int) u0_4 u0_5 u0_6 r9.1 r10.2.1 (0 : Int) v21
    else none
  else
   if ((r12.1.length : Int) == (0 : Int)) = true then
    Option.bind (m_slot_Level u0_2) fun r31 =>
    Option.bind (m_slot_Level u0_3) fun r32 =>
    Option.bind (m_merge_every ([(r31 == r32), (!strEq r9.2.1 (⟨#[]⟩ : ByteArray)), (strEq r9.2.1 r10.1), true] : List Bool)) fun r36 =>
    if (!r36) = true then
     some (((⟨#[]⟩ : ByteArray), ((⟨#[]⟩ : ByteArray), (([] : List (ByteArray × (ByteArray × Unit))), ((0 : Int), ())))), (2 : Int))
    else
     if fits (List.length r11.1 + List.length r12.1) 32 then
      let v37 := (r11.1 ++ r12.1)
      l1 (v37.length : Int) (0 : Int) u0_4 u0_5 u0_6 r9.1 r10.2.1 (0 : Int) v37
     else none
   else
    let v40 := (IntKind.i64.wrap ((r11.1.length : Int) - (1 : Int)))
    if (0 : Int) ≤ v40 then
     if v40 < (r11.1.length : Int) then
      if (0 : Int) < (r12.1.length : Int) then
       Option.bind (m_keys_Compare ((rd (.pair .str (.pair .str .nl)) r11.1 v40).1) ((rd (.pair .str (.pair .str .nl)) r12.1 (0 : Int)).1)) fun r43 =>
       Option.bind (m_slot_Level u0_2) fun r45 =>
       Option.bind (m_slot_Level u0_3) fun r46 =>
       Option.bind (m_merge_every ([(r45 == r46), (!strEq r9.2.1 (⟨#[]⟩ : ByteArray)), (strEq r9.2.1 r10.1), (decide (r43 < (0 : Int)))] : List Bool)) fun r50 =>
       if (!r50) = true then
        some (((⟨#[]⟩ : ByteArray), ((⟨#[]⟩ : ByteArray), (([] : List (ByteArray × (ByteArray × Unit))), ((0 : Int), ())))), (2 : Int))
       else
        if fits (List.length r11.1 + List.length r12.1) 32 then
         let v51 := (r11.1 ++ r12.1)
         l1 (v51.length : Int) (0 : Int) u0_4 u0_5 u0_6 r9.1 r10.2.1 (0 : Int) v51
        else none
      else none
     else none
    else none
def m_merge_together_l0 (N : Nat) : Nat → Int → Int → (List Int) → (List Int) → ByteArray → ByteArray → Int → (List (List Int)) → Option ((ByteArray × (ByteArray × ((List (ByteArray × (ByteArray × Unit))) × (Int × Unit)))) × Int)
  | 0, _, _, _, _, _, _, _, _ => none
  | n + 1, u0_0, u0_1, u0_2, u0_3, u0_4, u0_5, u0_6, u0_7 => m_merge_together_l0_b (m_merge_together_l0 N n) (m_merge_together_l1 N N) u0_0 u0_1 u0_2 u0_3 u0_4 u0_5 u0_6 u0_7
def m_merge_together_a (l0 : (Int → Int → (List Int) → (List Int) → ByteArray → ByteArray → Int → (List (List Int)) → Option ((ByteArray × (ByteArray × ((List (ByteArray × (ByteArray × Unit))) × (Int × Unit)))) × Int))) (x0 : (List Int)) (x1 : (List Int)) : Option ((ByteArray × (ByteArray × ((List (ByteArray × (ByteArray × Unit))) × (Int × Unit)))) × Int) :=
  let v1 := ([x0, x1] : List (List Int))
  l0 (v1.length : Int) (0 : Int) x0 x1 (⟨#[]⟩ : ByteArray) (⟨#[]⟩ : ByteArray) (0 : Int) v1
def m_merge_together (x0 : (List Int)) (x1 : (List Int)) : Option ((ByteArray × (ByteArray × ((List (ByteArray × (ByteArray × Unit))) × (Int × Unit)))) × Int) := m_merge_together_a (m_merge_together_l0 FUEL FUEL) x0 x1
def m_merge_Fits (x0 : (List Int)) (x1 : (List Int)) : Option (Bool × Int) :=
  Option.bind (m_merge_together x0 x1) fun r1 =>
  if (r1.2 == (0 : Int)) = true then
  some ((decide (r1.1.2.2.2.1 ≤ (108 : Int))), r1.2)
  else
  some (false, r1.2)
def m_ticketlinelaw18_fits (x0 : (List Int)) (x1 : (List Int)) (x2 : Bool) (x3 : Int) : Option Bool :=
  Option.bind (m_merge_Fits x0 x1) fun r1 =>
  if (r1.1 == x2) = true then
  some (r1.2 == x3)
  else
  some false
def m_merge_of (x0 : (List Int)) (x1 : ByteArray) (x2 : ByteArray) (x3 : Int) (x4 : (List (ByteArray × (ByteArray × Unit)))) : Option ((List Int) × Int) :=
  Option.bind (m_slot_Level x0) fun r2 =>
  Option.bind (m_page_Of r2 x1 x2 x3 x4) fun r3 =>
  if (r3.2 != (0 : Int)) = true then
  some ((List.replicate 128 (0 : Int)), r3.2)
  else
  some ((splice r3.1 (0 : Int) (List.take 8 (win x0 (0 : Int) (8 : Int)))), (0 : Int))
def m_merge_Merge (x0 : (List Int)) (x1 : (List Int)) : Option ((List Int) × Int) :=
  Option.bind (m_merge_together x0 x1) fun r2 =>
  if (r2.2 != (0 : Int)) = true then
  some ((List.replicate 128 (0 : Int)), r2.2)
  else
  if (decide (r2.1.2.2.2.1 > (108 : Int))) = true then
   some ((List.replicate 128 (0 : Int)), (7 : Int))
  else
   Option.bind (m_slot_Next x1) fun r7 =>
   Option.bind (m_merge_of x0 r2.1.1 r2.1.2.1 r7 r2.1.2.2.1) fun r8 =>
   some (r8.1, r8.2)
def m_ticketlinelaw18_merges (x0 : (List Int)) (x1 : (List Int)) (x2 : (List Int)) (x3 : Int) : Option Bool :=
  Option.bind (m_merge_Merge x0 x1) fun r1 =>
  if (Ty.beq (.arr 128 (.int .u64)) r1.1 x2) = true then
  some (r1.2 == x3)
  else
  some false
def m_ticketlinelaw18_pairs_l0_b (s0 : (ByteArray → ByteArray → Int → (List (ByteArray × (ByteArray × Unit))) → Option (List (ByteArray × (ByteArray × Unit))))) (u0_0 : ByteArray) (u0_1 : ByteArray) (u0_2 : Int) (u0_3 : (List (ByteArray × (ByteArray × Unit)))) : Option (List (ByteArray × (ByteArray × Unit))) :=
  if (decide (u0_2 < (u0_0.size : Int))) = true then
  let v3 := (IntKind.i64.wrap (u0_2 + (1 : Int)))
  if (0 : Int) ≤ v3 then
   if v3 ≤ (u0_0.size : Int) then
    if (0 : Int) ≤ u0_2 then
     if u0_2 ≤ v3 then
      let v5 := (IntKind.i64.wrap (u0_2 + (1 : Int)))
      if (0 : Int) ≤ v5 then
       if v5 ≤ (u0_1.size : Int) then
        if (0 : Int) ≤ u0_2 then
         if u0_2 ≤ v5 then
          let v7 := ([((ByteArray.extract u0_0 u0_2.toNat v3.toNat), ((ByteArray.extract u0_1 u0_2.toNat v5.toNat), ()))] : List (ByteArray × (ByteArray × Unit)))
          if fits (List.length u0_3 + List.length v7) 32 then
           s0 u0_0 u0_1 (IntKind.i64.wrap (u0_2 + (1 : Int))) (u0_3 ++ v7)
          else none
         else none
        else none
       else none
      else none
     else none
    else none
   else none
  else none
  else
  some u0_3
def m_ticketlinelaw18_pairs_l0 (N : Nat) : Nat → ByteArray → ByteArray → Int → (List (ByteArray × (ByteArray × Unit))) → Option (List (ByteArray × (ByteArray × Unit)))
  | 0, _, _, _, _ => none
  | n + 1, u0_0, u0_1, u0_2, u0_3 => m_ticketlinelaw18_pairs_l0_b (m_ticketlinelaw18_pairs_l0 N n) u0_0 u0_1 u0_2 u0_3
def m_ticketlinelaw18_pairs_a (l0 : (ByteArray → ByteArray → Int → (List (ByteArray × (ByteArray × Unit))) → Option (List (ByteArray × (ByteArray × Unit))))) (x0 : ByteArray) (x1 : ByteArray) : Option (List (ByteArray × (ByteArray × Unit))) :=
  l0 x0 x1 (0 : Int) ([] : List (ByteArray × (ByteArray × Unit)))
def m_ticketlinelaw18_pairs (x0 : ByteArray) (x1 : ByteArray) : Option (List (ByteArray × (ByteArray × Unit))) := m_ticketlinelaw18_pairs_a (m_ticketlinelaw18_pairs_l0 FUEL FUEL) x0 x1
def m_merge_both_place_l0_b (s0 : (Int → Int → Int → Int → (List (ByteArray × (ByteArray × Unit))) → Int → Int → ByteArray → ByteArray → (List (ByteArray × (ByteArray × Unit))) → Int → Option (Int × Int))) (u0_0 : Int) (u0_1 : Int) (u0_2 : Int) (u0_3 : Int) (u0_4 : (List (ByteArray × (ByteArray × Unit)))) (u0_5 : Int) (u0_6 : Int) (u0_7 : ByteArray) (u0_8 : ByteArray) (u0_9 : (List (ByteArray × (ByteArray × Unit)))) (u0_10 : Int) : Option (Int × Int) :=
  if (decide (u0_6 < u0_5)) = true then
  if (0 : Int) ≤ u0_6 then
   if u0_6 < (u0_4.length : Int) then
    let v4 := (rd (.pair .str (.pair .str .nl)) u0_4 u0_6)
    let v6 := (IntKind.i64.wrap ((IntKind.i64.wrap ((2 : Int) * u0_3)) - u0_10))
    let v8 := (IntKind.i64.wrap (u0_10 - (IntKind.i64.wrap ((2 : Int) * u0_3))))
    if (decide (u0_6 > (0 : Int))) = true then
     if (decide ((mx v6 v8) < u0_0)) = true then
      Option.bind (m_slot_Cost v4.1 v4.2.1) fun r11 =>
      s0 (mx v6 v8) u0_6 u0_3 (IntKind.i64.wrap (u0_3 + r11)) u0_4 u0_5 (IntKind.i64.wrap (u0_6 + (1 : Int))) u0_7 u0_8 u0_9 u0_10
     else
      Option.bind (m_slot_Cost v4.1 v4.2.1) fun r14 =>
      s0 u0_0 u0_1 u0_2 (IntKind.i64.wrap (u0_3 + r14)) u0_4 u0_5 (IntKind.i64.wrap (u0_6 + (1 : Int))) u0_7 u0_8 u0_9 u0_10
    else
     Option.bind (m_slot_Cost v4.1 v4.2.1) fun r17 =>
     s0 u0_0 u0_1 u0_2 (IntKind.i64.wrap (u0_3 + r17)) u0_4 u0_5 (IntKind.i64.wrap (u0_6 + (1 : Int))) u0_7 u0_8 u0_9 u0_10
   else none
  else none
  else
  some (u0_1, u0_2)
def m_merge_both_place_l0 (N : Nat) : Nat → Int → Int → Int → Int → (List (ByteArray × (ByteArray × Unit))) → Int → Int → ByteArray → ByteArray → (List (ByteArray × (ByteArray × Unit))) → Int → Option (Int × Int)
  | 0, _, _, _, _, _, _, _, _, _, _, _ => none
  | n + 1, u0_0, u0_1, u0_2, u0_3, u0_4, u0_5, u0_6, u0_7, u0_8, u0_9, u0_10 => m_merge_both_place_l0_b (m_merge_both_place_l0 N n) u0_0 u0_1 u0_2 u0_3 u0_4 u0_5 u0_6 u0_7 u0_8 u0_9 u0_10
def m_merge_both_place_a (l0 : (Int → Int → Int → Int → (List (ByteArray × (ByteArray × Unit))) → Int → Int → ByteArray → ByteArray → (List (ByteArray × (ByteArray × Unit))) → Int → Option (Int × Int))) (x0 : (ByteArray × (ByteArray × ((List (ByteArray × (ByteArray × Unit))) × (Int × Unit))))) : Option (Int × Int) :=
  l0 (IntKind.i64.wrap (x0.2.2.2.1 + (1 : Int))) (0 : Int) (0 : Int) (0 : Int) x0.2.2.1 (x0.2.2.1.length : Int) (0 : Int) x0.1 x0.2.1 x0.2.2.1 x0.2.2.2.1
def m_merge_both_place (x0 : (ByteArray × (ByteArray × ((List (ByteArray × (ByteArray × Unit))) × (Int × Unit))))) : Option (Int × Int) := m_merge_both_place_a (m_merge_both_place_l0 FUEL FUEL) x0
def m_merge_Borrow (x0 : (List Int)) (x1 : (List Int)) : Option ((List Int) × (List Int) × ByteArray × Int) :=
  let v3 := (List.replicate 128 (0 : Int))
  Option.bind (m_merge_together x0 x1) fun r4 =>
  if (r4.2 != (0 : Int)) = true then
  some (v3, v3, (⟨#[]⟩ : ByteArray), r4.2)
  else
  if (decide ((r4.1.2.2.1.length : Int) < (2 : Int))) = true then
   some (v3, v3, (⟨#[]⟩ : ByteArray), (9 : Int))
  else
   Option.bind (m_merge_both_place (r4.1.1, (r4.1.2.1, (r4.1.2.2.1, (r4.1.2.2.2.1, ()))))) fun r8 =>
   if (decide ((mx r8.2 (IntKind.i64.wrap (r4.1.2.2.2.1 - r8.2))) > (108 : Int))) = true then
    some (v3, v3, (⟨#[]⟩ : ByteArray), (7 : Int))
   else
    if (0 : Int) ≤ r8.1 then
     if r8.1 < (r4.1.2.2.1.length : Int) then
      let v11 := (rd (.pair .str (.pair .str .nl)) r4.1.2.2.1 r8.1).1
      Option.bind (m_slot_Next x0) fun r12 =>
      if (0 : Int) ≤ r8.1 then
       if r8.1 ≤ (r4.1.2.2.1.length : Int) then
        if (0 : Int) ≤ r8.1 then
         Option.bind (m_merge_of x0 r4.1.1 v11 r12 (win r4.1.2.2.1 (0 : Int) (r8.1 - (0 : Int)))) fun r14 =>
         if (r14.2 != (0 : Int)) = true then
          some (v3, v3, (⟨#[]⟩ : ByteArray), r14.2)
         else
          Option.bind (m_slot_Next x1) fun r16 =>
          if (0 : Int) ≤ (r4.1.2.2.1.length : Int) then
           if (r4.1.2.2.1.length : Int) ≤ (r4.1.2.2.1.length : Int) then
            if (0 : Int) ≤ r8.1 then
             if r8.1 ≤ (r4.1.2.2.1.length : Int) then
              Option.bind (m_merge_of x1 v11 r4.1.2.1 r16 (win r4.1.2.2.1 r8.1 ((r4.1.2.2.1.length : Int) - r8.1))) fun r18 =>
              if (r18.2 != (0 : Int)) = true then
               some (v3, v3, (⟨#[]⟩ : ByteArray), r18.2)
              else
               some (r14.1, r18.1, v11, (0 : Int))
             else none
            else none
           else none
          else none
        else none
       else none
      else none
     else none
    else none
def m_ticketlinelaw18_borrows (x0 : (List Int)) (x1 : (List Int)) (x2 : (List Int)) (x3 : (List Int)) (x4 : ByteArray) (x5 : Int) : Option Bool :=
  Option.bind (m_merge_Borrow x0 x1) fun r1 =>
  if (Ty.beq (.arr 128 (.int .u64)) r1.1 x2) = true then
  if (Ty.beq (.arr 128 (.int .u64)) r1.2.1 x3) = true then
   if (strEq r1.2.2.1 x4) = true then
    some (r1.2.2.2 == x5)
   else
    some false
  else
   some false
  else
  some false
def m_ticketlinelaw18_known : Option Bool :=
  Option.bind (m_ticketlinelaw18_pairs (⟨#[98, 100]⟩ : ByteArray) (⟨#[49, 50]⟩ : ByteArray)) fun r1 =>
  Option.bind (m_ticketlineref16_Of (0 : Int) (⟨#[]⟩ : ByteArray) (⟨#[109]⟩ : ByteArray) (2 : Int) r1) fun r2 =>
  Option.bind (m_ticketlinelaw18_pairs (⟨#[110, 112, 114]⟩ : ByteArray) (⟨#[51, 52, 53]⟩ : ByteArray)) fun r4 =>
  Option.bind (m_ticketlineref16_Of (0 : Int) (⟨#[109]⟩ : ByteArray) (⟨#[]⟩ : ByteArray) (0 : Int) r4) fun r5 =>
  Option.bind (m_ticketlinelaw18_pairs (⟨#[98, 100, 110, 112, 114]⟩ : ByteArray) (⟨#[49, 50, 51, 52, 53]⟩ : ByteArray)) fun r7 =>
  Option.bind (m_ticketlineref16_Of (0 : Int) (⟨#[]⟩ : ByteArray) (⟨#[]⟩ : ByteArray) (0 : Int) r7) fun r8 =>
  if (r2.2 != (0 : Int)) = true then
  some false
  else
  if (r5.2 != (0 : Int)) = true then
   some false
  else
   if (r8.2 != (0 : Int)) = true then
    some false
   else
    Option.bind (m_ticketlinelaw18_poor r2.1 true (0 : Int)) fun r13 =>
    if (!r13) = true then
     some false
    else
     Option.bind (m_ticketlinelaw18_fits r2.1 r5.1 true (0 : Int)) fun r14 =>
     if (!r14) = true then
      some false
     else
      Option.bind (m_ticketlinelaw18_merges r2.1 r5.1 r8.1 (0 : Int)) fun r15 =>
      if (!r15) = true then
       some false
      else
       Option.bind (m_ticketlinelaw18_pairs (⟨#[98, 100]⟩ : ByteArray) (⟨#[49, 50]⟩ : ByteArray)) fun r16 =>
       Option.bind (m_ticketlineref16_Of (0 : Int) (⟨#[]⟩ : ByteArray) (⟨#[110]⟩ : ByteArray) (2 : Int) r16) fun r17 =>
       Option.bind (m_ticketlinelaw18_pairs (⟨#[110, 112, 114]⟩ : ByteArray) (⟨#[51, 52, 53]⟩ : ByteArray)) fun r19 =>
       Option.bind (m_ticketlineref16_Of (0 : Int) (⟨#[110]⟩ : ByteArray) (⟨#[]⟩ : ByteArray) (0 : Int) r19) fun r20 =>
       Option.bind (m_ticketlinelaw18_pairs (⟨#[98]⟩ : ByteArray) (⟨#[49]⟩ : ByteArray)) fun r22 =>
       Option.bind (m_ticketlineref16_Of (0 : Int) (⟨#[]⟩ : ByteArray) (⟨#[109]⟩ : ByteArray) (2 : Int) r22) fun r23 =>
       Option.bind (m_ticketlineref16_Of (0 : Int) (⟨#[109]⟩ : ByteArray) (⟨#[]⟩ : ByteArray) (0 : Int) ([] : List (ByteArray × (ByteArray × Unit)))) fun r25 =>
       if (r17.2 != (0 : Int)) = true then
        some false
       else
        if (r20.2 != (0 : Int)) = true then
         some false
        else
         if (r23.2 != (0 : Int)) = true then
          some false
         else
          if (r25.2 != (0 : Int)) = true then
           some false
          else
           Option.bind (m_ticketlinelaw18_borrows r2.1 r5.1 r17.1 r20.1 (⟨#[110]⟩ : ByteArray) (0 : Int)) fun r31 =>
           if (!r31) = true then
            some false
           else
            Option.bind (m_ticketlinelaw18_fits r5.1 r2.1 false (2 : Int)) fun r32 =>
            if r32 = true then
             Option.bind (m_ticketlinelaw18_merges r2.1 (List.replicate 128 (0 : Int)) (List.replicate 128 (0 : Int)) (12 : Int)) fun r35 =>
             if r35 = true then
              Option.bind (m_ticketlinelaw18_borrows r23.1 r25.1 (List.replicate 128 (0 : Int)) (List.replicate 128 (0 : Int)) (⟨#[]⟩ : ByteArray) (9 : Int)) fun r38 =>
              some r38
             else
              some false
            else
             some false
def m_ticketlinelaw18_MergePoor (x0 : (Int × (Int × (ByteArray × (ByteArray × ((List (ByteArray × (ByteArray × Unit))) × ((List Int) × ((List (Int × (Int × Unit))) × Unit)))))))) : Option Bool :=
  Option.bind (m_ticketlineref14_Plan_Page x0) fun r1 =>
  if (!r1.2) = true then
  Option.bind (m_ticketlinelaw18_known) fun r3 =>
  some r3
  else
  Option.bind (m_ticketlineref15_Bad r1.1) fun r4 =>
  if (r4 != (0 : Int)) = true then
   Option.bind (m_ticketlinelaw18_poor r1.1 false r4) fun r6 =>
   if r6 = true then
    Option.bind (m_ticketlinelaw18_known) fun r7 =>
    some r7
   else
    some false
  else
   Option.bind (m_ticketlineref14_Pairs r1.1) fun r8 =>
   Option.bind (m_ticketlineref14_Sum r8) fun r9 =>
   Option.bind (m_ticketlinelaw18_poor r1.1 (decide (r9 < (36 : Int))) (0 : Int)) fun r11 =>
   if r11 = true then
    Option.bind (m_ticketlinelaw18_known) fun r12 =>
    some r12
   else
    some false
def m_ticketlineref18_Bad (x0 : (List Int)) (x1 : (List Int)) : Option Int :=
  Option.bind (m_ticketlineref15_Bad x0) fun r1 =>
  if (r1 != (0 : Int)) = true then
  some r1
  else
  Option.bind (m_ticketlineref15_Bad x1) fun r3 =>
  if (r3 != (0 : Int)) = true then
   some r3
  else
   Option.bind (m_ticketlineref14_Fences x0) fun r5 =>
   Option.bind (m_ticketlineref14_Fences x1) fun r6 =>
   Option.bind (m_ticketlineref14_Pairs x0) fun r7 =>
   Option.bind (m_ticketlineref14_Pairs x1) fun r8 =>
   if ((rd (.int .u64) x0 (8 : Int)) != (rd (.int .u64) x1 (8 : Int))) = true then
    some (2 : Int)
   else
    if (strEq r5.2 (⟨#[]⟩ : ByteArray)) = true then
     some (2 : Int)
    else
     if (!strEq r5.2 r6.1) = true then
      some (2 : Int)
     else
      if (decide ((r7.length : Int) > (0 : Int))) = true then
       if (decide ((r8.length : Int) > (0 : Int))) = true then
        let v18 := (IntKind.i64.wrap ((r7.length : Int) - (1 : Int)))
        if (0 : Int) ≤ v18 then
         if v18 < (r7.length : Int) then
          if (0 : Int) < (r8.length : Int) then
           if (!strLt ((rd (.pair .str (.pair .str .nl)) r7 v18).1) ((rd (.pair .str (.pair .str .nl)) r8 (0 : Int)).1)) = true then
            some (2 : Int)
           else
            some (0 : Int)
          else none
         else none
        else none
       else
        some (0 : Int)
      else
       some (0 : Int)
def m_ticketlineref18_Merge (x0 : (List Int)) (x1 : (List Int)) : Option ((List Int) × Int) :=
  Option.bind (m_ticketlineref18_Bad x0 x1) fun r2 =>
  if (r2 != (0 : Int)) = true then
  some ((List.replicate 128 (0 : Int)), r2)
  else
  Option.bind (m_ticketlineref14_Pairs x0) fun r5 =>
  Option.bind (m_ticketlineref14_Pairs x1) fun r6 =>
  if fits (List.length r5 + List.length r6) 32 then
   Option.bind (m_ticketlineref14_Sum (r5 ++ r6)) fun r7 =>
   if (decide (r7 > (108 : Int))) = true then
    some ((List.replicate 128 (0 : Int)), (7 : Int))
   else
    Option.bind (m_ticketlineref14_Fences x0) fun r10 =>
    Option.bind (m_ticketlineref14_Fences x1) fun r11 =>
    if (!strEq r11.2 (⟨#[]⟩ : ByteArray)) = true then
     if (!strLt r10.1 r11.2) = true then
      some ((List.replicate 128 (0 : Int)), (13 : Int))
     else
      Option.bind (m_ticketlineref16_Of (IntKind.i64.wrap ((IntKind.i64.wrap (rd (.int .u64) x0 (8 : Int))) - (1 : Int))) r10.1 r11.2 (IntKind.i64.wrap (rd (.int .u64) x1 (10 : Int))) (r5 ++ r6)) fun r20 =>
      if (r20.2 != (0 : Int)) = true then
       some ((List.replicate 128 (0 : Int)), r20.2)
      else
       Option.bind (m_ticketlineref17_Keep r20.1 x0) fun r24 =>
       some (r24, (0 : Int))
    else
     Option.bind (m_ticketlineref16_Of (IntKind.i64.wrap ((IntKind.i64.wrap (rd (.int .u64) x0 (8 : Int))) - (1 : Int))) r10.1 r11.2 (IntKind.i64.wrap (rd (.int .u64) x1 (10 : Int))) (r5 ++ r6)) fun r30 =>
     if (r30.2 != (0 : Int)) = true then
      some ((List.replicate 128 (0 : Int)), r30.2)
     else
      Option.bind (m_ticketlineref17_Keep r30.1 x0) fun r34 =>
      some (r34, (0 : Int))
  else none
def m_ticketlineref18_Borrow (x0 : (List Int)) (x1 : (List Int)) : Option ((List Int) × (List Int) × ByteArray × Int) :=
  Option.bind (m_ticketlineref18_Bad x0 x1) fun r3 =>
  if (r3 != (0 : Int)) = true then
  some ((List.replicate 128 (0 : Int)), (List.replicate 128 (0 : Int)), (⟨#[]⟩ : ByteArray), r3)
  else
  Option.bind (m_ticketlineref14_Pairs x0) fun r7 =>
  Option.bind (m_ticketlineref14_Pairs x1) fun r8 =>
  if fits (List.length r7 + List.length r8) 32 then
   if (decide ((((r7 ++ r8)).length : Int) < (2 : Int))) = true then
    some ((List.replicate 128 (0 : Int)), (List.replicate 128 (0 : Int)), (⟨#[]⟩ : ByteArray), (9 : Int))
   else
    Option.bind (m_ticketlineref17_Place (r7 ++ r8)) fun r13 =>
    if (0 : Int) ≤ r13 then
     if r13 ≤ (((r7 ++ r8)).length : Int) then
      if (0 : Int) ≤ r13 then
       Option.bind (m_ticketlineref14_Sum (win (r7 ++ r8) (0 : Int) (r13 - (0 : Int)))) fun r15 =>
       if (decide (r15 > (108 : Int))) = true then
        some ((List.replicate 128 (0 : Int)), (List.replicate 128 (0 : Int)), (⟨#[]⟩ : ByteArray), (7 : Int))
       else
        if (0 : Int) ≤ (((r7 ++ r8)).length : Int) then
         if (((r7 ++ r8)).length : Int) ≤ (((r7 ++ r8)).length : Int) then
          if (0 : Int) ≤ r13 then
           if r13 ≤ (((r7 ++ r8)).length : Int) then
            Option.bind (m_ticketlineref14_Sum (win (r7 ++ r8) r13 ((((r7 ++ r8)).length : Int) - r13))) fun r20 =>
            if (decide (r20 > (108 : Int))) = true then
             some ((List.replicate 128 (0 : Int)), (List.replicate 128 (0 : Int)), (⟨#[]⟩ : ByteArray), (7 : Int))
            else
             Option.bind (m_ticketlineref14_Fences x0) fun r24 =>
             Option.bind (m_ticketlineref14_Fences x1) fun r25 =>
             if (0 : Int) ≤ r13 then
              if r13 < (((r7 ++ r8)).length : Int) then
               let v26 := (rd (.pair .str (.pair .str .nl)) (r7 ++ r8) r13).1
               if (strLt v26 r24.1 || strEq v26 r24.1) = true then
                some ((List.replicate 128 (0 : Int)), (List.replicate 128 (0 : Int)), (⟨#[]⟩ : ByteArray), (13 : Int))
               else
                if (!strEq r25.2 (⟨#[]⟩ : ByteArray)) = true then
                 if (!strLt v26 r25.2) = true then
                  some ((List.replicate 128 (0 : Int)), (List.replicate 128 (0 : Int)), (⟨#[]⟩ : ByteArray), (13 : Int))
                 else
                  if (0 : Int) ≤ r13 then
                   if r13 ≤ (((r7 ++ r8)).length : Int) then
                    if (0 : Int) ≤ r13 then
                     Option.bind (m_ticketlineref16_Of (IntKind.i64.wrap ((IntKind.i64.wrap (rd (.int .u64) x0 (8 : Int))) - (1 : Int))) r24.1 v26 (IntKind.i64.wrap (rd (.int .u64) x0 (10 : Int))) (win (r7 ++ r8) (0 : Int) (r13 - (0 : Int)))) fun r40 =>
                     if (0 : Int) ≤ (((r7 ++ r8)).length : Int) then
                      if (((r7 ++ r8)).length : Int) ≤ (((r7 ++ r8)).length : Int) then
                       if (0 : Int) ≤ r13 then
                        if r13 ≤ (((r7 ++ r8)).length : Int) then
                         Option.bind (m_ticketlineref16_Of (IntKind.i64.wrap ((IntKind.i64.wrap (rd (.int .u64) x0 (8 : Int))) - (1 : Int))) v26 r25.2 (IntKind.i64.wrap (rd (.int .u64) x1 (10 : Int))) (win (r7 ++ r8) r13 ((((r7 ++ r8)).length : Int) - r13))) fun r48 =>
                         if (r40.2 != (0 : Int)) = true then
                          some ((List.replicate 128 (0 : Int)), (List.replicate 128 (0 : Int)), (⟨#[]⟩ : ByteArray), (mx r40.2 r48.2))
                         else
                          if (r48.2 != (0 : Int)) = true then
                           some ((List.replicate 128 (0 : Int)), (List.replicate 128 (0 : Int)), (⟨#[]⟩ : ByteArray), (mx r40.2 r48.2))
                          else
                           Option.bind (m_ticketlineref17_Keep r40.1 x0) fun r58 =>
                           Option.bind (m_ticketlineref17_Keep r48.1 x1) fun r59 =>
                           some (r58, r59, v26, (0 : Int))
                        else none
                       else none
                      else none
                     else none
                    else none
                   else none
                  else none
                else
                 if (0 : Int) ≤ r13 then
                  if r13 ≤ (((r7 ++ r8)).length : Int) then
                   if (0 : Int) ≤ r13 then
                    Option.bind (m_ticketlineref16_Of (IntKind.i64.wrap ((IntKind.i64.wrap (rd (.int .u64) x0 (8 : Int))) - (1 : Int))) r24.1 v26 (IntKind.i64.wrap (rd (.int .u64) x0 (10 : Int))) (win (r7 ++ r8) (0 : Int) (r13 - (0 : Int)))) fun r66 =>
                    if (0 : Int) ≤ (((r7 ++ r8)).length : Int) then
                     if (((r7 ++ r8)).length : Int) ≤ (((r7 ++ r8)).length : Int) then
                      if (0 : Int) ≤ r13 then
                       if r13 ≤ (((r7 ++ r8)).length : Int) then
                        Option.bind (m_ticketlineref16_Of (IntKind.i64.wrap ((IntKind.i64.wrap (rd (.int .u64) x0 (8 : Int))) - (1 : Int))) v26 r25.2 (IntKind.i64.wrap (rd (.int .u64) x1 (10 : Int))) (win (r7 ++ r8) r13 ((((r7 ++ r8)).length : Int) - r13))) fun r74 =>
                        if (r66.2 != (0 : Int)) = true then
                         some ((List.replicate 128 (0 : Int)), (List.replicate 128 (0 : Int)), (⟨#[]⟩ : ByteArray), (mx r66.2 r74.2))
                        else
                         if (r74.2 != (0 : Int)) = true then
                          some ((List.replicate 128 (0 : Int)), (List.replicate 128 (0 : Int)), (⟨#[]⟩ : ByteArray), (mx r66.2 r74.2))
                         else
                          Option.bind (m_ticketlineref17_Keep r66.1 x0) fun r84 =>
                          Option.bind (m_ticketlineref17_Keep r74.1 x1) fun r85 =>
                          some (r84, r85, v26, (0 : Int))
                       else none
                      else none
                     else none
                    else none
                   else none
                  else none
                 else none
              else none
             else none
           else none
          else none
         else none
        else none
      else none
     else none
    else none
  else none
def m_ticketlinelaw18_right (x0 : (List Int)) (x1 : (List Int)) : Option Bool :=
  Option.bind (m_ticketlineref18_Bad x0 x1) fun r1 =>
  if (r1 != (0 : Int)) = true then
  Option.bind (m_ticketlinelaw18_fits x0 x1 false r1) fun r3 =>
  if r3 = true then
   Option.bind (m_ticketlinelaw18_merges x0 x1 (List.replicate 128 (0 : Int)) r1) fun r5 =>
   if r5 = true then
    Option.bind (m_ticketlinelaw18_borrows x0 x1 (List.replicate 128 (0 : Int)) (List.replicate 128 (0 : Int)) (⟨#[]⟩ : ByteArray) r1) fun r8 =>
    some r8
   else
    some false
  else
   some false
  else
  Option.bind (m_ticketlineref14_Pairs x0) fun r9 =>
  Option.bind (m_ticketlineref14_Sum r9) fun r10 =>
  Option.bind (m_ticketlineref14_Pairs x1) fun r11 =>
  Option.bind (m_ticketlineref14_Sum r11) fun r12 =>
  Option.bind (m_ticketlinelaw18_fits x0 x1 (decide ((IntKind.i64.wrap (r10 + r12)) ≤ (108 : Int))) (0 : Int)) fun r15 =>
  if (!r15) = true then
   some false
  else
   Option.bind (m_ticketlineref18_Merge x0 x1) fun r16 =>
   Option.bind (m_ticketlineref18_Borrow x0 x1) fun r18 =>
   Option.bind (m_ticketlinelaw18_merges x0 x1 r16.1 r16.2) fun r21 =>
   if r21 = true then
    Option.bind (m_ticketlinelaw18_borrows x0 x1 r18.1 r18.2.1 r18.2.2.1 r18.2.2.2) fun r22 =>
    some r22
   else
    some false
def m_ticketlinelaw18_MergePages (x0 : (Int × (Int × (ByteArray × (ByteArray × ((List (ByteArray × (ByteArray × Unit))) × ((List Int) × ((List (Int × (Int × Unit))) × Unit)))))))) (x1 : (Int × (Int × (ByteArray × (ByteArray × ((List (ByteArray × (ByteArray × Unit))) × ((List Int) × ((List (Int × (Int × Unit))) × Unit)))))))) : Option Bool :=
  Option.bind (m_ticketlineref14_Plan_Page x0) fun r1 =>
  Option.bind (m_ticketlineref14_Plan_Page x1) fun r3 =>
  if (!r1.2) = true then
  Option.bind (m_ticketlinelaw18_known) fun r5 =>
  some r5
  else
  if (!r3.2) = true then
   Option.bind (m_ticketlinelaw18_known) fun r6 =>
   some r6
  else
   Option.bind (m_ticketlinelaw18_right r1.1 r3.1) fun r7 =>
   if r7 = true then
    Option.bind (m_ticketlinelaw18_known) fun r8 =>
    some r8
   else
    some false
def m_ticketlinelaw18_MergeRows_l0_b (s0 : (Int → Int → Int → ByteArray → ByteArray → (List (ByteArray × (ByteArray × Unit))) → (List Int) → (List (Int × (Int × Unit))) → Option Bool)) (u0_0 : Int) (u0_1 : Int) (u0_2 : Int) (u0_3 : ByteArray) (u0_4 : ByteArray) (u0_5 : (List (ByteArray × (ByteArray × Unit)))) (u0_6 : (List Int)) (u0_7 : (List (Int × (Int × Unit)))) : Option Bool :=
  if (decide (u0_0 < (u0_5.length : Int))) = true then
  if (0 : Int) ≤ u0_0 then
   if u0_0 ≤ (u0_5.length : Int) then
    if (0 : Int) ≤ u0_0 then
     if (0 : Int) ≤ (u0_5.length : Int) then
      if (u0_5.length : Int) ≤ (u0_5.length : Int) then
       if (0 : Int) ≤ u0_0 then
        if u0_0 ≤ (u0_5.length : Int) then
         if (0 : Int) ≤ u0_0 then
          if u0_0 < (u0_5.length : Int) then
           if (0 : Int) ≤ u0_0 then
            if u0_0 < (u0_5.length : Int) then
             Option.bind (m_ticketlineref14_Plan_Used (u0_1, (u0_2, (u0_3, ((rd (.pair .str (.pair .str .nl)) u0_5 u0_0).1, ((win u0_5 (0 : Int) (u0_0 - (0 : Int))), (u0_6, (([] : List (Int × (Int × Unit))), ())))))))) fun r13 =>
             Option.bind (m_ticketlineref14_Plan_Used (u0_1, (u0_2, ((rd (.pair .str (.pair .str .nl)) u0_5 u0_0).1, (u0_4, ((win u0_5 u0_0 ((u0_5.length : Int) - u0_0)), (u0_6, (([] : List (Int × (Int × Unit))), ())))))))) fun r15 =>
             if (!r13.2) = true then
              Option.bind (m_ticketlinelaw18_known) fun r17 =>
              some r17
             else
              if (!r15.2) = true then
               Option.bind (m_ticketlinelaw18_known) fun r18 =>
               some r18
              else
               Option.bind (m_ticketlinelaw18_right r13.1 r15.1) fun r19 =>
               if (!r19) = true then
                some false
               else
                Option.bind (m_ticketlinelaw18_right r15.1 r13.1) fun r20 =>
                if (!r20) = true then
                 some false
                else
                 s0 (IntKind.i64.wrap (u0_0 + (1 : Int))) u0_1 u0_2 u0_3 u0_4 u0_5 u0_6 u0_7
            else none
           else none
          else none
         else none
        else none
       else none
      else none
     else none
    else none
   else none
  else none
  else
  Option.bind (m_ticketlinelaw18_known) fun r22 =>
  some r22
def m_ticketlinelaw18_MergeRows_l0 (N : Nat) : Nat → Int → Int → Int → ByteArray → ByteArray → (List (ByteArray × (ByteArray × Unit))) → (List Int) → (List (Int × (Int × Unit))) → Option Bool
  | 0, _, _, _, _, _, _, _, _ => none
  | n + 1, u0_0, u0_1, u0_2, u0_3, u0_4, u0_5, u0_6, u0_7 => m_ticketlinelaw18_MergeRows_l0_b (m_ticketlinelaw18_MergeRows_l0 N n) u0_0 u0_1 u0_2 u0_3 u0_4 u0_5 u0_6 u0_7
def m_ticketlinelaw18_MergeRows_a (l0 : (Int → Int → Int → ByteArray → ByteArray → (List (ByteArray × (ByteArray × Unit))) → (List Int) → (List (Int × (Int × Unit))) → Option Bool)) (x0 : (Int × (Int × (ByteArray × (ByteArray × ((List (ByteArray × (ByteArray × Unit))) × ((List Int) × ((List (Int × (Int × Unit))) × Unit)))))))) : Option Bool :=
  Option.bind (m_ticketlineref14_Plan_Used x0) fun r1 =>
  if (!r1.2) = true then
  Option.bind (m_ticketlinelaw18_known) fun r3 =>
  some r3
  else
  Option.bind (m_ticketlineref15_Bad r1.1) fun r4 =>
  if (r4 != (0 : Int)) = true then
   Option.bind (m_ticketlinelaw18_known) fun r6 =>
   some r6
  else
   l0 (1 : Int) x0.1 x0.2.1 x0.2.2.1 x0.2.2.2.1 x0.2.2.2.2.1 x0.2.2.2.2.2.1 x0.2.2.2.2.2.2.1
def m_ticketlinelaw18_MergeRows (x0 : (Int × (Int × (ByteArray × (ByteArray × ((List (ByteArray × (ByteArray × Unit))) × ((List Int) × ((List (Int × (Int × Unit))) × Unit)))))))) : Option Bool := m_ticketlinelaw18_MergeRows_a (m_ticketlinelaw18_MergeRows_l0 FUEL FUEL) x0
def m_ticketlineref16_Compact_l1_b (s1 : (Int → (List Int) → (List (ByteArray × (ByteArray × Unit))) → (List Int) → Option (List Int))) (u1_0 : Int) (u1_1 : (List Int)) (u1_2 : (List (ByteArray × (ByteArray × Unit)))) (u1_3 : (List Int)) : Option (List Int) :=
  if (decide (u1_0 < (u1_2.length : Int))) = true then
  if (0 : Int) ≤ u1_0 then
   if u1_0 < (u1_2.length : Int) then
    Option.bind (m_ticketlineref14_Put u1_3 (((rd (.pair .str (.pair .str .nl)) u1_2 u1_0).1), (((rd (.pair .str (.pair .str .nl)) u1_2 u1_0).2.1), ()))) fun r13 =>
    s1 (IntKind.i64.wrap (u1_0 + (1 : Int))) u1_1 u1_2 r13
   else none
  else none
  else
  some u1_3
def m_ticketlineref16_Compact_l1 (N : Nat) : Nat → Int → (List Int) → (List (ByteArray × (ByteArray × Unit))) → (List Int) → Option (List Int)
  | 0, _, _, _, _ => none
  | n + 1, u1_0, u1_1, u1_2, u1_3 => m_ticketlineref16_Compact_l1_b (m_ticketlineref16_Compact_l1 N n) u1_0 u1_1 u1_2 u1_3
def m_ticketlineref16_Compact_l0_b (s0 : (Int → (List Int) → (List (ByteArray × (ByteArray × Unit))) → (List Int) → Option (List Int))) (l1 : (Int → (List Int) → (List (ByteArray × (ByteArray × Unit))) → (List Int) → Option (List Int))) (u0_0 : Int) (u0_1 : (List Int)) (u0_2 : (List (ByteArray × (ByteArray × Unit)))) (u0_3 : (List Int)) : Option (List Int) :=
  if (decide (u0_0 < (128 : Int))) = true then
  if (0 : Int) ≤ u0_0 then
   if u0_0 < (128 : Int) then
    s0 (IntKind.i64.wrap (u0_0 + (1 : Int))) u0_1 u0_2 (List.set u0_3 u0_0.toNat (0 : Int))
   else none
  else none
  else
  l1 (0 : Int) u0_1 u0_2 u0_3
def m_ticketlineref16_Compact_l0 (N : Nat) : Nat → Int → (List Int) → (List (ByteArray × (ByteArray × Unit))) → (List Int) → Option (List Int)
  | 0, _, _, _, _ => none
  | n + 1, u0_0, u0_1, u0_2, u0_3 => m_ticketlineref16_Compact_l0_b (m_ticketlineref16_Compact_l0 N n) (m_ticketlineref16_Compact_l1 N N) u0_0 u0_1 u0_2 u0_3
def m_ticketlineref16_Compact_a (l0 : (Int → (List Int) → (List (ByteArray × (ByteArray × Unit))) → (List Int) → Option (List Int))) (x0 : (List Int)) : Option (List Int) :=
  Option.bind (m_ticketlineref14_Pairs x0) fun r2 =>
  l0 (20 : Int) (List.replicate 128 (0 : Int)) r2 (List.set (List.set x0 9 (0 : Int)) 11 (128 : Int))
def m_ticketlineref16_Compact (x0 : (List Int)) : Option (List Int) := m_ticketlineref16_Compact_a (m_ticketlineref16_Compact_l0 FUEL FUEL) x0
def m_ticketlinelaw18_MergeSplits (x0 : (Int × (Int × (ByteArray × (ByteArray × ((List (ByteArray × (ByteArray × Unit))) × ((List Int) × ((List (Int × (Int × Unit))) × Unit)))))))) (x1 : Int) : Option Bool :=
  Option.bind (m_ticketlineref14_Plan_Used x0) fun r1 =>
  if (!r1.2) = true then
  Option.bind (m_ticketlinelaw18_known) fun r3 =>
  some r3
  else
  if (decide (x1 < (1 : Int))) = true then
   Option.bind (m_ticketlinelaw18_known) fun r5 =>
   some r5
  else
   if (decide (x1 > (511 : Int))) = true then
    Option.bind (m_ticketlinelaw18_known) fun r7 =>
    some r7
   else
    Option.bind (m_ticketlineref15_Bad r1.1) fun r8 =>
    if (r8 != (0 : Int)) = true then
     Option.bind (m_ticketlinelaw18_known) fun r10 =>
     some r10
    else
     Option.bind (m_ticketlineref17_Split r1.1 x1) fun r11 =>
     if (r11.2.2.2 != (0 : Int)) = true then
      Option.bind (m_ticketlinelaw18_known) fun r15 =>
      some r15
     else
      Option.bind (m_ticketlinelaw18_fits r11.1 r11.2.1 true (0 : Int)) fun r16 =>
      if r16 = true then
       Option.bind (m_ticketlineref16_Compact r1.1) fun r17 =>
       Option.bind (m_ticketlinelaw18_merges r11.1 r11.2.1 r17 (0 : Int)) fun r18 =>
       if r18 = true then
        Option.bind (m_ticketlinelaw18_known) fun r19 =>
        some r19
       else
        some false
      else
       some false
def m_ticketlinelaw18_MergeHolds (x0 : (Int × (Int × (ByteArray × (ByteArray × ((List (ByteArray × (ByteArray × Unit))) × ((List Int) × ((List (Int × (Int × Unit))) × Unit)))))))) (x1 : (Int × (Int × (ByteArray × (ByteArray × ((List (ByteArray × (ByteArray × Unit))) × ((List Int) × ((List (Int × (Int × Unit))) × Unit)))))))) : Option Bool :=
  Option.bind (m_ticketlineref14_Plan_Used x0) fun r1 =>
  Option.bind (m_ticketlineref14_Plan_Used x1) fun r3 =>
  if (!r1.2) = true then
  Option.bind (m_ticketlinelaw18_known) fun r5 =>
  some r5
  else
  if (!r3.2) = true then
   Option.bind (m_ticketlinelaw18_known) fun r6 =>
   some r6
  else
   Option.bind (m_merge_Fits r1.1 r3.1) fun r7 =>
   if (r7.2 != (0 : Int)) = true then
    Option.bind (m_ticketlinelaw18_known) fun r9 =>
    some r9
   else
    Option.bind (m_ticketlineref14_Pairs r1.1) fun r10 =>
    Option.bind (m_ticketlineref14_Pairs r3.1) fun r11 =>
    if fits (List.length r10 + List.length r11) 32 then
     Option.bind (m_merge_Merge r1.1 r3.1) fun r12 =>
     if (r12.2 == (0 : Int)) = true then
      if (!r7.1) = true then
       some false
      else
       Option.bind (m_ticketlineref14_Valid r12.1) fun r15 =>
       if (!r15) = true then
        some false
       else
        Option.bind (m_ticketlineref14_Pairs r12.1) fun r16 =>
        Option.bind (m_ticketlineref14_Same r16 (r10 ++ r11)) fun r17 =>
        if (!r17) = true then
         some false
        else
         if (r12.2 == (7 : Int)) = true then
          if r7.1 = true then
           some false
          else
           if (r12.2 != (0 : Int)) = true then
            if (r12.2 != (7 : Int)) = true then
             if (r12.2 != (13 : Int)) = true then
              some false
             else
              Option.bind (m_merge_Poor r1.1) fun r22 =>
              Option.bind (m_merge_Poor r3.1) fun r23 =>
              Option.bind (m_merge_Borrow r1.1 r3.1) fun r24 =>
              if (r22.2 != (0 : Int)) = true then
               some false
              else
               if (r23.2 != (0 : Int)) = true then
                some false
               else
                if (r24.2.2.2 != (0 : Int)) = true then
                 if (strEq r24.2.2.1 (⟨#[]⟩ : ByteArray)) = true then
                  if (r24.2.2.2 == (9 : Int)) = true then
                   if (decide ((((r10 ++ r11)).length : Int) < (2 : Int))) = true then
                    Option.bind (m_ticketlinelaw18_known) fun r34 =>
                    some r34
                   else
                    if (r24.2.2.2 == (7 : Int)) = true then
                     if (!r7.1) = true then
                      Option.bind (m_ticketlinelaw18_known) fun r36 =>
                      some r36
                     else
                      if (r24.2.2.2 == (13 : Int)) = true then
                       Option.bind (m_ticketlinelaw18_known) fun r38 =>
                       some r38
                      else
                       some false
                    else
                     if (r24.2.2.2 == (13 : Int)) = true then
                      Option.bind (m_ticketlinelaw18_known) fun r40 =>
                      some r40
                     else
                      some false
                  else
                   if (r24.2.2.2 == (7 : Int)) = true then
                    if (!r7.1) = true then
                     Option.bind (m_ticketlinelaw18_known) fun r42 =>
                     some r42
                    else
                     if (r24.2.2.2 == (13 : Int)) = true then
                      Option.bind (m_ticketlinelaw18_known) fun r44 =>
                      some r44
                     else
                      some false
                   else
                    if (r24.2.2.2 == (13 : Int)) = true then
                     Option.bind (m_ticketlinelaw18_known) fun r46 =>
                     some r46
                    else
                     some false
                 else
                  some false
                else
                 Option.bind (m_ticketlineref14_Valid r24.1) fun r47 =>
                 if (!r47) = true then
                  some false
                 else
                  Option.bind (m_ticketlineref14_Valid r24.2.1) fun r48 =>
                  if (!r48) = true then
                   some false
                  else
                   Option.bind (m_ticketlineref14_Pairs r24.1) fun r49 =>
                   Option.bind (m_ticketlineref14_Pairs r24.2.1) fun r50 =>
                   if fits (List.length r49 + List.length r50) 32 then
                    Option.bind (m_ticketlineref14_Same (r49 ++ r50) (r10 ++ r11)) fun r51 =>
                    if (!r51) = true then
                     some false
                    else
                     Option.bind (m_merge_Fits r24.1 r24.2.1) fun r52 =>
                     if (r52.2 != (0 : Int)) = true then
                      some false
                     else
                      Option.bind (m_ticketlineref14_Pairs r24.1) fun r54 =>
                      Option.bind (m_ticketlineref14_Sum r54) fun r55 =>
                      Option.bind (m_ticketlineref14_Pairs r24.2.1) fun r56 =>
                      Option.bind (m_ticketlineref14_Sum r56) fun r57 =>
                      if (decide ((IntKind.i64.wrap (r55 - r57)) > (9 : Int))) = true then
                       some false
                      else
                       if (decide ((IntKind.i64.wrap (r57 - r55)) > (9 : Int))) = true then
                        some false
                       else
                        if (!r22.1) = true then
                         if (!r23.1) = true then
                          Option.bind (m_ticketlinelaw18_known) fun r62 =>
                          some r62
                         else
                          if r7.1 = true then
                           Option.bind (m_ticketlinelaw18_known) fun r63 =>
                           some r63
                          else
                           if (decide (r55 ≥ (36 : Int))) = true then
                            if (decide (r57 ≥ (36 : Int))) = true then
                             Option.bind (m_ticketlinelaw18_known) fun r66 =>
                             some r66
                            else
                             some false
                           else
                            some false
                        else
                         if r7.1 = true then
                          Option.bind (m_ticketlinelaw18_known) fun r67 =>
                          some r67
                         else
                          if (decide (r55 ≥ (36 : Int))) = true then
                           if (decide (r57 ≥ (36 : Int))) = true then
                            Option.bind (m_ticketlinelaw18_known) fun r70 =>
                            some r70
                           else
                            some false
                          else
                           some false
                   else none
            else
             Option.bind (m_merge_Poor r1.1) fun r71 =>
             Option.bind (m_merge_Poor r3.1) fun r72 =>
             Option.bind (m_merge_Borrow r1.1 r3.1) fun r73 =>
             if (r71.2 != (0 : Int)) = true then
              some false
             else
              if (r72.2 != (0 : Int)) = true then
               some false
              else
               if (r73.2.2.2 != (0 : Int)) = true then
                if (strEq r73.2.2.1 (⟨#[]⟩ : ByteArray)) = true then
                 if (r73.2.2.2 == (9 : Int)) = true then
                  if (decide ((((r10 ++ r11)).length : Int) < (2 : Int))) = true then
                   Option.bind (m_ticketlinelaw18_known) fun r83 =>
                   some r83
                  else
                   if (r73.2.2.2 == (7 : Int)) = true then
                    if (!r7.1) = true then
                     Option.bind (m_ticketlinelaw18_known) fun r85 =>
                     some r85
                    else
                     if (r73.2.2.2 == (13 : Int)) = true then
                      Option.bind (m_ticketlinelaw18_known) fun r87 =>
                      some r87
                     else
                      some false
                   else
                    if (r73.2.2.2 == (13 : Int)) = true then
                     Option.bind (m_ticketlinelaw18_known) fun r89 =>
                     some r89
                    else
                     some false
                 else
                  if (r73.2.2.2 == (7 : Int)) = true then
                   if (!r7.1) = true then
                    Option.bind (m_ticketlinelaw18_known) fun r91 =>
                    some r91
                   else
                    if (r73.2.2.2 == (13 : Int)) = true then
                     Option.bind (m_ticketlinelaw18_known) fun r93 =>
                     some r93
                    else
                     some false
                  else
                   if (r73.2.2.2 == (13 : Int)) = true then
                    Option.bind (m_ticketlinelaw18_known) fun r95 =>
                    some r95
                   else
                    some false
                else
                 some false
               else
                Option.bind (m_ticketlineref14_Valid r73.1) fun r96 =>
                if (!r96) = true then
                 some false
                else
                 Option.bind (m_ticketlineref14_Valid r73.2.1) fun r97 =>
                 if (!r97) = true then
                  some false
                 else
                  Option.bind (m_ticketlineref14_Pairs r73.1) fun r98 =>
                  Option.bind (m_ticketlineref14_Pairs r73.2.1) fun r99 =>
                  if fits (List.length r98 + List.length r99) 32 then
                   Option.bind (m_ticketlineref14_Same (r98 ++ r99) (r10 ++ r11)) fun r100 =>
                   if (!r100) = true then
                    some false
                   else
                    Option.bind (m_merge_Fits r73.1 r73.2.1) fun r101 =>
                    if (r101.2 != (0 : Int)) = true then
                     some false
                    else
                     Option.bind (m_ticketlineref14_Pairs r73.1) fun r103 =>
                     Option.bind (m_ticketlineref14_Sum r103) fun r104 =>
                     Option.bind (m_ticketlineref14_Pairs r73.2.1) fun r105 =>
                     Option.bind (m_ticketlineref14_Sum r105) fun r106 =>
                     if (decide ((IntKind.i64.wrap (r104 - r106)) > (9 : Int))) = true then
                      some false
                     else
                      if (decide ((IntKind.i64.wrap (r106 - r104)) > (9 : Int))) = true then
                       some false
                      else
                       if (!r71.1) = true then
                        if (!r72.1) = true then
                         Option.bind (m_ticketlinelaw18_known) fun r111 =>
                         some r111
                        else
                         if r7.1 = true then
                          Option.bind (m_ticketlinelaw18_known) fun r112 =>
                          some r112
                         else
                          if (decide (r104 ≥ (36 : Int))) = true then
                           if (decide (r106 ≥ (36 : Int))) = true then
                            Option.bind (m_ticketlinelaw18_known) fun r115 =>
                            some r115
                           else
                            some false
                          else
                           some false
                       else
                        if r7.1 = true then
                         Option.bind (m_ticketlinelaw18_known) fun r116 =>
                         some r116
                        else
                         if (decide (r104 ≥ (36 : Int))) = true then
                          if (decide (r106 ≥ (36 : Int))) = true then
                           Option.bind (m_ticketlinelaw18_known) fun r119 =>
                           some r119
                          else
                           some false
                         else
                          some false
                  else none
           else
            Option.bind (m_merge_Poor r1.1) fun r120 =>
            Option.bind (m_merge_Poor r3.1) fun r121 =>
            Option.bind (m_merge_Borrow r1.1 r3.1) fun r122 =>
            if (r120.2 != (0 : Int)) = true then
             some false
            else
             if (r121.2 != (0 : Int)) = true then
              some false
             else
              if (r122.2.2.2 != (0 : Int)) = true then
               if (strEq r122.2.2.1 (⟨#[]⟩ : ByteArray)) = true then
                if (r122.2.2.2 == (9 : Int)) = true then
                 if (decide ((((r10 ++ r11)).length : Int) < (2 : Int))) = true then
                  Option.bind (m_ticketlinelaw18_known) fun r132 =>
                  some r132
                 else
                  if (r122.2.2.2 == (7 : Int)) = true then
                   if (!r7.1) = true then
                    Option.bind (m_ticketlinelaw18_known) fun r134 =>
                    some r134
                   else
                    if (r122.2.2.2 == (13 : Int)) = true then
                     Option.bind (m_ticketlinelaw18_known) fun r136 =>
                     some r136
                    else
                     some false
                  else
                   if (r122.2.2.2 == (13 : Int)) = true then
                    Option.bind (m_ticketlinelaw18_known) fun r138 =>
                    some r138
                   else
                    some false
                else
                 if (r122.2.2.2 == (7 : Int)) = true then
                  if (!r7.1) = true then
                   Option.bind (m_ticketlinelaw18_known) fun r140 =>
                   some r140
                  else
                   if (r122.2.2.2 == (13 : Int)) = true then
                    Option.bind (m_ticketlinelaw18_known) fun r142 =>
                    some r142
                   else
                    some false
                 else
                  if (r122.2.2.2 == (13 : Int)) = true then
                   Option.bind (m_ticketlinelaw18_known) fun r144 =>
                   some r144
                  else
                   some false
               else
                some false
              else
               Option.bind (m_ticketlineref14_Valid r122.1) fun r145 =>
               if (!r145) = true then
                some false
               else
                Option.bind (m_ticketlineref14_Valid r122.2.1) fun r146 =>
                if (!r146) = true then
                 some false
                else
                 Option.bind (m_ticketlineref14_Pairs r122.1) fun r147 =>
                 Option.bind (m_ticketlineref14_Pairs r122.2.1) fun r148 =>
                 if fits (List.length r147 + List.length r148) 32 then
                  Option.bind (m_ticketlineref14_Same (r147 ++ r148) (r10 ++ r11)) fun r149 =>
                  if (!r149) = true then
                   some false
                  else
                   Option.bind (m_merge_Fits r122.1 r122.2.1) fun r150 =>
                   if (r150.2 != (0 : Int)) = true then
                    some false
                   else
                    Option.bind (m_ticketlineref14_Pairs r122.1) fun r152 =>
                    Option.bind (m_ticketlineref14_Sum r152) fun r153 =>
                    Option.bind (m_ticketlineref14_Pairs r122.2.1) fun r154 =>
                    Option.bind (m_ticketlineref14_Sum r154) fun r155 =>
                    if (decide ((IntKind.i64.wrap (r153 - r155)) > (9 : Int))) = true then
                     some false
                    else
                     if (decide ((IntKind.i64.wrap (r155 - r153)) > (9 : Int))) = true then
                      some false
                     else
                      if (!r120.1) = true then
                       if (!r121.1) = true then
                        Option.bind (m_ticketlinelaw18_known) fun r160 =>
                        some r160
                       else
                        if r7.1 = true then
                         Option.bind (m_ticketlinelaw18_known) fun r161 =>
                         some r161
                        else
                         if (decide (r153 ≥ (36 : Int))) = true then
                          if (decide (r155 ≥ (36 : Int))) = true then
                           Option.bind (m_ticketlinelaw18_known) fun r164 =>
                           some r164
                          else
                           some false
                         else
                          some false
                      else
                       if r7.1 = true then
                        Option.bind (m_ticketlinelaw18_known) fun r165 =>
                        some r165
                       else
                        if (decide (r153 ≥ (36 : Int))) = true then
                         if (decide (r155 ≥ (36 : Int))) = true then
                          Option.bind (m_ticketlinelaw18_known) fun r168 =>
                          some r168
                         else
                          some false
                        else
                         some false
                 else none
         else
          if (r12.2 != (0 : Int)) = true then
           if (r12.2 != (7 : Int)) = true then
            if (r12.2 != (13 : Int)) = true then
             some false
            else
             Option.bind (m_merge_Poor r1.1) fun r172 =>
             Option.bind (m_merge_Poor r3.1) fun r173 =>
             Option.bind (m_merge_Borrow r1.1 r3.1) fun r174 =>
             if (r172.2 != (0 : Int)) = true then
              some false
             else
              if (r173.2 != (0 : Int)) = true then
               some false
              else
               if (r174.2.2.2 != (0 : Int)) = true then
                if (strEq r174.2.2.1 (⟨#[]⟩ : ByteArray)) = true then
                 if (r174.2.2.2 == (9 : Int)) = true then
                  if (decide ((((r10 ++ r11)).length : Int) < (2 : Int))) = true then
                   Option.bind (m_ticketlinelaw18_known) fun r184 =>
                   some r184
                  else
                   if (r174.2.2.2 == (7 : Int)) = true then
                    if (!r7.1) = true then
                     Option.bind (m_ticketlinelaw18_known) fun r186 =>
                     some r186
                    else
                     if (r174.2.2.2 == (13 : Int)) = true then
                      Option.bind (m_ticketlinelaw18_known) fun r188 =>
                      some r188
                     else
                      some false
                   else
                    if (r174.2.2.2 == (13 : Int)) = true then
                     Option.bind (m_ticketlinelaw18_known) fun r190 =>
                     some r190
                    else
                     some false
                 else
                  if (r174.2.2.2 == (7 : Int)) = true then
                   if (!r7.1) = true then
                    Option.bind (m_ticketlinelaw18_known) fun r192 =>
                    some r192
                   else
                    if (r174.2.2.2 == (13 : Int)) = true then
                     Option.bind (m_ticketlinelaw18_known) fun r194 =>
                     some r194
                    else
                     some false
                  else
                   if (r174.2.2.2 == (13 : Int)) = true then
                    Option.bind (m_ticketlinelaw18_known) fun r196 =>
                    some r196
                   else
                    some false
                else
                 some false
               else
                Option.bind (m_ticketlineref14_Valid r174.1) fun r197 =>
                if (!r197) = true then
                 some false
                else
                 Option.bind (m_ticketlineref14_Valid r174.2.1) fun r198 =>
                 if (!r198) = true then
                  some false
                 else
                  Option.bind (m_ticketlineref14_Pairs r174.1) fun r199 =>
                  Option.bind (m_ticketlineref14_Pairs r174.2.1) fun r200 =>
                  if fits (List.length r199 + List.length r200) 32 then
                   Option.bind (m_ticketlineref14_Same (r199 ++ r200) (r10 ++ r11)) fun r201 =>
                   if (!r201) = true then
                    some false
                   else
                    Option.bind (m_merge_Fits r174.1 r174.2.1) fun r202 =>
                    if (r202.2 != (0 : Int)) = true then
                     some false
                    else
                     Option.bind (m_ticketlineref14_Pairs r174.1) fun r204 =>
                     Option.bind (m_ticketlineref14_Sum r204) fun r205 =>
                     Option.bind (m_ticketlineref14_Pairs r174.2.1) fun r206 =>
                     Option.bind (m_ticketlineref14_Sum r206) fun r207 =>
                     if (decide ((IntKind.i64.wrap (r205 - r207)) > (9 : Int))) = true then
                      some false
                     else
                      if (decide ((IntKind.i64.wrap (r207 - r205)) > (9 : Int))) = true then
                       some false
                      else
                       if (!r172.1) = true then
                        if (!r173.1) = true then
                         Option.bind (m_ticketlinelaw18_known) fun r212 =>
                         some r212
                        else
                         if r7.1 = true then
                          Option.bind (m_ticketlinelaw18_known) fun r213 =>
                          some r213
                         else
                          if (decide (r205 ≥ (36 : Int))) = true then
                           if (decide (r207 ≥ (36 : Int))) = true then
                            Option.bind (m_ticketlinelaw18_known) fun r216 =>
                            some r216
                           else
                            some false
                          else
                           some false
                       else
                        if r7.1 = true then
                         Option.bind (m_ticketlinelaw18_known) fun r217 =>
                         some r217
                        else
                         if (decide (r205 ≥ (36 : Int))) = true then
                          if (decide (r207 ≥ (36 : Int))) = true then
                           Option.bind (m_ticketlinelaw18_known) fun r220 =>
                           some r220
                          else
                           some false
                         else
                          some false
                  else none
           else
            Option.bind (m_merge_Poor r1.1) fun r221 =>
            Option.bind (m_merge_Poor r3.1) fun r222 =>
            Option.bind (m_merge_Borrow r1.1 r3.1) fun r223 =>
            if (r221.2 != (0 : Int)) = true then
             some false
            else
             if (r222.2 != (0 : Int)) = true then
              some false
             else
              if (r223.2.2.2 != (0 : Int)) = true then
               if (strEq r223.2.2.1 (⟨#[]⟩ : ByteArray)) = true then
                if (r223.2.2.2 == (9 : Int)) = true then
                 if (decide ((((r10 ++ r11)).length : Int) < (2 : Int))) = true then
                  Option.bind (m_ticketlinelaw18_known) fun r233 =>
                  some r233
                 else
                  if (r223.2.2.2 == (7 : Int)) = true then
                   if (!r7.1) = true then
                    Option.bind (m_ticketlinelaw18_known) fun r235 =>
                    some r235
                   else
                    if (r223.2.2.2 == (13 : Int)) = true then
                     Option.bind (m_ticketlinelaw18_known) fun r237 =>
                     some r237
                    else
                     some false
                  else
                   if (r223.2.2.2 == (13 : Int)) = true then
                    Option.bind (m_ticketlinelaw18_known) fun r239 =>
                    some r239
                   else
                    some false
                else
                 if (r223.2.2.2 == (7 : Int)) = true then
                  if (!r7.1) = true then
                   Option.bind (m_ticketlinelaw18_known) fun r241 =>
                   some r241
                  else
                   if (r223.2.2.2 == (13 : Int)) = true then
                    Option.bind (m_ticketlinelaw18_known) fun r243 =>
                    some r243
                   else
                    some false
                 else
                  if (r223.2.2.2 == (13 : Int)) = true then
                   Option.bind (m_ticketlinelaw18_known) fun r245 =>
                   some r245
                  else
                   some false
               else
                some false
              else
               Option.bind (m_ticketlineref14_Valid r223.1) fun r246 =>
               if (!r246) = true then
                some false
               else
                Option.bind (m_ticketlineref14_Valid r223.2.1) fun r247 =>
                if (!r247) = true then
                 some false
                else
                 Option.bind (m_ticketlineref14_Pairs r223.1) fun r248 =>
                 Option.bind (m_ticketlineref14_Pairs r223.2.1) fun r249 =>
                 if fits (List.length r248 + List.length r249) 32 then
                  Option.bind (m_ticketlineref14_Same (r248 ++ r249) (r10 ++ r11)) fun r250 =>
                  if (!r250) = true then
                   some false
                  else
                   Option.bind (m_merge_Fits r223.1 r223.2.1) fun r251 =>
                   if (r251.2 != (0 : Int)) = true then
                    some false
                   else
                    Option.bind (m_ticketlineref14_Pairs r223.1) fun r253 =>
                    Option.bind (m_ticketlineref14_Sum r253) fun r254 =>
                    Option.bind (m_ticketlineref14_Pairs r223.2.1) fun r255 =>
                    Option.bind (m_ticketlineref14_Sum r255) fun r256 =>
                    if (decide ((IntKind.i64.wrap (r254 - r256)) > (9 : Int))) = true then
                     some false
                    else
                     if (decide ((IntKind.i64.wrap (r256 - r254)) > (9 : Int))) = true then
                      some false
                     else
                      if (!r221.1) = true then
                       if (!r222.1) = true then
                        Option.bind (m_ticketlinelaw18_known) fun r261 =>
                        some r261
                       else
                        if r7.1 = true then
                         Option.bind (m_ticketlinelaw18_known) fun r262 =>
                         some r262
                        else
                         if (decide (r254 ≥ (36 : Int))) = true then
                          if (decide (r256 ≥ (36 : Int))) = true then
                           Option.bind (m_ticketlinelaw18_known) fun r265 =>
                           some r265
                          else
                           some false
                         else
                          some false
                      else
                       if r7.1 = true then
                        Option.bind (m_ticketlinelaw18_known) fun r266 =>
                        some r266
                       else
                        if (decide (r254 ≥ (36 : Int))) = true then
                         if (decide (r256 ≥ (36 : Int))) = true then
                          Option.bind (m_ticketlinelaw18_known) fun r269 =>
                          some r269
                         else
                          some false
                        else
                         some false
                 else none
          else
           Option.bind (m_merge_Poor r1.1) fun r270 =>
           Option.bind (m_merge_Poor r3.1) fun r271 =>
           Option.bind (m_merge_Borrow r1.1 r3.1) fun r272 =>
           if (r270.2 != (0 : Int)) = true then
            some false
           else
            if (r271.2 != (0 : Int)) = true then
             some false
            else
             if (r272.2.2.2 != (0 : Int)) = true then
              if (strEq r272.2.2.1 (⟨#[]⟩ : ByteArray)) = true then
               if (r272.2.2.2 == (9 : Int)) = true then
                if (decide ((((r10 ++ r11)).length : Int) < (2 : Int))) = true then
                 Option.bind (m_ticketlinelaw18_known) fun r282 =>
                 some r282
                else
                 if (r272.2.2.2 == (7 : Int)) = true then
                  if (!r7.1) = true then
                   Option.bind (m_ticketlinelaw18_known) fun r284 =>
                   some r284
                  else
                   if (r272.2.2.2 == (13 : Int)) = true then
                    Option.bind (m_ticketlinelaw18_known) fun r286 =>
                    some r286
                   else
                    some false
                 else
                  if (r272.2.2.2 == (13 : Int)) = true then
                   Option.bind (m_ticketlinelaw18_known) fun r288 =>
                   some r288
                  else
                   some false
               else
                if (r272.2.2.2 == (7 : Int)) = true then
                 if (!r7.1) = true then
                  Option.bind (m_ticketlinelaw18_known) fun r290 =>
                  some r290
                 else
                  if (r272.2.2.2 == (13 : Int)) = true then
                   Option.bind (m_ticketlinelaw18_known) fun r292 =>
                   some r292
                  else
                   some false
                else
                 if (r272.2.2.2 == (13 : Int)) = true then
                  Option.bind (m_ticketlinelaw18_known) fun r294 =>
                  some r294
                 else
                  some false
              else
               some false
             else
              Option.bind (m_ticketlineref14_Valid r272.1) fun r295 =>
              if (!r295) = true then
               some false
              else
               Option.bind (m_ticketlineref14_Valid r272.2.1) fun r296 =>
               if (!r296) = true then
                some false
               else
                Option.bind (m_ticketlineref14_Pairs r272.1) fun r297 =>
                Option.bind (m_ticketlineref14_Pairs r272.2.1) fun r298 =>
                if fits (List.length r297 + List.length r298) 32 then
                 Option.bind (m_ticketlineref14_Same (r297 ++ r298) (r10 ++ r11)) fun r299 =>
                 if (!r299) = true then
                  some false
                 else
                  Option.bind (m_merge_Fits r272.1 r272.2.1) fun r300 =>
                  if (r300.2 != (0 : Int)) = true then
                   some false
                  else
                   Option.bind (m_ticketlineref14_Pairs r272.1) fun r302 =>
                   Option.bind (m_ticketlineref14_Sum r302) fun r303 =>
                   Option.bind (m_ticketlineref14_Pairs r272.2.1) fun r304 =>
                   Option.bind (m_ticketlineref14_Sum r304) fun r305 =>
                   if (decide ((IntKind.i64.wrap (r303 - r305)) > (9 : Int))) = true then
                    some false
                   else
                    if (decide ((IntKind.i64.wrap (r305 - r303)) > (9 : Int))) = true then
                     some false
                    else
                     if (!r270.1) = true then
                      if (!r271.1) = true then
                       Option.bind (m_ticketlinelaw18_known) fun r310 =>
                       some r310
                      else
                       if r7.1 = true then
                        Option.bind (m_ticketlinelaw18_known) fun r311 =>
                        some r311
                       else
                        if (decide (r303 ≥ (36 : Int))) = true then
                         if (decide (r305 ≥ (36 : Int))) = true then
                          Option.bind (m_ticketlinelaw18_known) fun r314 =>
                          some r314
                         else
                          some false
                        else
                         some false
                     else
                      if r7.1 = true then
                       Option.bind (m_ticketlinelaw18_known) fun r315 =>
                       some r315
                      else
                       if (decide (r303 ≥ (36 : Int))) = true then
                        if (decide (r305 ≥ (36 : Int))) = true then
                         Option.bind (m_ticketlinelaw18_known) fun r318 =>
                         some r318
                        else
                         some false
                       else
                        some false
                else none
     else
      if (r12.2 == (7 : Int)) = true then
       if r7.1 = true then
        some false
       else
        if (r12.2 != (0 : Int)) = true then
         if (r12.2 != (7 : Int)) = true then
          if (r12.2 != (13 : Int)) = true then
           some false
          else
           Option.bind (m_merge_Poor r1.1) fun r323 =>
           Option.bind (m_merge_Poor r3.1) fun r324 =>
           Option.bind (m_merge_Borrow r1.1 r3.1) fun r325 =>
           if (r323.2 != (0 : Int)) = true then
            some false
           else
            if (r324.2 != (0 : Int)) = true then
             some false
            else
             if (r325.2.2.2 != (0 : Int)) = true then
              if (strEq r325.2.2.1 (⟨#[]⟩ : ByteArray)) = true then
               if (r325.2.2.2 == (9 : Int)) = true then
                if (decide ((((r10 ++ r11)).length : Int) < (2 : Int))) = true then
                 Option.bind (m_ticketlinelaw18_known) fun r335 =>
                 some r335
                else
                 if (r325.2.2.2 == (7 : Int)) = true then
                  if (!r7.1) = true then
                   Option.bind (m_ticketlinelaw18_known) fun r337 =>
                   some r337
                  else
                   if (r325.2.2.2 == (13 : Int)) = true then
                    Option.bind (m_ticketlinelaw18_known) fun r339 =>
                    some r339
                   else
                    some false
                 else
                  if (r325.2.2.2 == (13 : Int)) = true then
                   Option.bind (m_ticketlinelaw18_known) fun r341 =>
                   some r341
                  else
                   some false
               else
                if (r325.2.2.2 == (7 : Int)) = true then
                 if (!r7.1) = true then
                  Option.bind (m_ticketlinelaw18_known) fun r343 =>
                  some r343
                 else
                  if (r325.2.2.2 == (13 : Int)) = true then
                   Option.bind (m_ticketlinelaw18_known) fun r345 =>
                   some r345
                  else
                   some false
                else
                 if (r325.2.2.2 == (13 : Int)) = true then
                  Option.bind (m_ticketlinelaw18_known) fun r347 =>
                  some r347
                 else
                  some false
              else
               some false
             else
              Option.bind (m_ticketlineref14_Valid r325.1) fun r348 =>
              if (!r348) = true then
               some false
              else
               Option.bind (m_ticketlineref14_Valid r325.2.1) fun r349 =>
               if (!r349) = true then
                some false
               else
                Option.bind (m_ticketlineref14_Pairs r325.1) fun r350 =>
                Option.bind (m_ticketlineref14_Pairs r325.2.1) fun r351 =>
                if fits (List.length r350 + List.length r351) 32 then
                 Option.bind (m_ticketlineref14_Same (r350 ++ r351) (r10 ++ r11)) fun r352 =>
                 if (!r352) = true then
                  some false
                 else
                  Option.bind (m_merge_Fits r325.1 r325.2.1) fun r353 =>
                  if (r353.2 != (0 : Int)) = true then
                   some false
                  else
                   Option.bind (m_ticketlineref14_Pairs r325.1) fun r355 =>
                   Option.bind (m_ticketlineref14_Sum r355) fun r356 =>
                   Option.bind (m_ticketlineref14_Pairs r325.2.1) fun r357 =>
                   Option.bind (m_ticketlineref14_Sum r357) fun r358 =>
                   if (decide ((IntKind.i64.wrap (r356 - r358)) > (9 : Int))) = true then
                    some false
                   else
                    if (decide ((IntKind.i64.wrap (r358 - r356)) > (9 : Int))) = true then
                     some false
                    else
                     if (!r323.1) = true then
                      if (!r324.1) = true then
                       Option.bind (m_ticketlinelaw18_known) fun r363 =>
                       some r363
                      else
                       if r7.1 = true then
                        Option.bind (m_ticketlinelaw18_known) fun r364 =>
                        some r364
                       else
                        if (decide (r356 ≥ (36 : Int))) = true then
                         if (decide (r358 ≥ (36 : Int))) = true then
                          Option.bind (m_ticketlinelaw18_known) fun r367 =>
                          some r367
                         else
                          some false
                        else
                         some false
                     else
                      if r7.1 = true then
                       Option.bind (m_ticketlinelaw18_known) fun r368 =>
                       some r368
                      else
                       if (decide (r356 ≥ (36 : Int))) = true then
                        if (decide (r358 ≥ (36 : Int))) = true then
                         Option.bind (m_ticketlinelaw18_known) fun r371 =>
                         some r371
                        else
                         some false
                       else
                        some false
                else none
         else
          Option.bind (m_merge_Poor r1.1) fun r372 =>
          Option.bind (m_merge_Poor r3.1) fun r373 =>
          Option.bind (m_merge_Borrow r1.1 r3.1) fun r374 =>
          if (r372.2 != (0 : Int)) = true then
           some false
          else
           if (r373.2 != (0 : Int)) = true then
            some false
           else
            if (r374.2.2.2 != (0 : Int)) = true then
             if (strEq r374.2.2.1 (⟨#[]⟩ : ByteArray)) = true then
              if (r374.2.2.2 == (9 : Int)) = true then
               if (decide ((((r10 ++ r11)).length : Int) < (2 : Int))) = true then
                Option.bind (m_ticketlinelaw18_known) fun r384 =>
                some r384
               else
                if (r374.2.2.2 == (7 : Int)) = true then
                 if (!r7.1) = true then
                  Option.bind (m_ticketlinelaw18_known) fun r386 =>
                  some r386
                 else
                  if (r374.2.2.2 == (13 : Int)) = true then
                   Option.bind (m_ticketlinelaw18_known) fun r388 =>
                   some r388
                  else
                   some false
                else
                 if (r374.2.2.2 == (13 : Int)) = true then
                  Option.bind (m_ticketlinelaw18_known) fun r390 =>
                  some r390
                 else
                  some false
              else
               if (r374.2.2.2 == (7 : Int)) = true then
                if (!r7.1) = true then
                 Option.bind (m_ticketlinelaw18_known) fun r392 =>
                 some r392
                else
                 if (r374.2.2.2 == (13 : Int)) = true then
                  Option.bind (m_ticketlinelaw18_known) fun r394 =>
                  some r394
                 else
                  some false
               else
                if (r374.2.2.2 == (13 : Int)) = true then
                 Option.bind (m_ticketlinelaw18_known) fun r396 =>
                 some r396
                else
                 some false
             else
              some false
            else
             Option.bind (m_ticketlineref14_Valid r374.1) fun r397 =>
             if (!r397) = true then
              some false
             else
              Option.bind (m_ticketlineref14_Valid r374.2.1) fun r398 =>
              if (!r398) = true then
               some false
              else
               Option.bind (m_ticketlineref14_Pairs r374.1) fun r399 =>
               Option.bind (m_ticketlineref14_Pairs r374.2.1) fun r400 =>
               if fits (List.length r399 + List.length r400) 32 then
                Option.bind (m_ticketlineref14_Same (r399 ++ r400) (r10 ++ r11)) fun r401 =>
                if (!r401) = true then
                 some false
                else
                 Option.bind (m_merge_Fits r374.1 r374.2.1) fun r402 =>
                 if (r402.2 != (0 : Int)) = true then
                  some false
                 else
                  Option.bind (m_ticketlineref14_Pairs r374.1) fun r404 =>
                  Option.bind (m_ticketlineref14_Sum r404) fun r405 =>
                  Option.bind (m_ticketlineref14_Pairs r374.2.1) fun r406 =>
                  Option.bind (m_ticketlineref14_Sum r406) fun r407 =>
                  if (decide ((IntKind.i64.wrap (r405 - r407)) > (9 : Int))) = true then
                   some false
                  else
                   if (decide ((IntKind.i64.wrap (r407 - r405)) > (9 : Int))) = true then
                    some false
                   else
                    if (!r372.1) = true then
                     if (!r373.1) = true then
                      Option.bind (m_ticketlinelaw18_known) fun r412 =>
                      some r412
                     else
                      if r7.1 = true then
                       Option.bind (m_ticketlinelaw18_known) fun r413 =>
                       some r413
                      else
                       if (decide (r405 ≥ (36 : Int))) = true then
                        if (decide (r407 ≥ (36 : Int))) = true then
                         Option.bind (m_ticketlinelaw18_known) fun r416 =>
                         some r416
                        else
                         some false
                       else
                        some false
                    else
                     if r7.1 = true then
                      Option.bind (m_ticketlinelaw18_known) fun r417 =>
                      some r417
                     else
                      if (decide (r405 ≥ (36 : Int))) = true then
                       if (decide (r407 ≥ (36 : Int))) = true then
                        Option.bind (m_ticketlinelaw18_known) fun r420 =>
                        some r420
                       else
                        some false
                      else
                       some false
               else none
        else
         Option.bind (m_merge_Poor r1.1) fun r421 =>
         Option.bind (m_merge_Poor r3.1) fun r422 =>
         Option.bind (m_merge_Borrow r1.1 r3.1) fun r423 =>
         if (r421.2 != (0 : Int)) = true then
          some false
         else
          if (r422.2 != (0 : Int)) = true then
           some false
          else
           if (r423.2.2.2 != (0 : Int)) = true then
            if (strEq r423.2.2.1 (⟨#[]⟩ : ByteArray)) = true then
             if (r423.2.2.2 == (9 : Int)) = true then
              if (decide ((((r10 ++ r11)).length : Int) < (2 : Int))) = true then
               Option.bind (m_ticketlinelaw18_known) fun r433 =>
               some r433
              else
               if (r423.2.2.2 == (7 : Int)) = true then
                if (!r7.1) = true then
                 Option.bind (m_ticketlinelaw18_known) fun r435 =>
                 some r435
                else
                 if (r423.2.2.2 == (13 : Int)) = true then
                  Option.bind (m_ticketlinelaw18_known) fun r437 =>
                  some r437
                 else
                  some false
               else
                if (r423.2.2.2 == (13 : Int)) = true then
                 Option.bind (m_ticketlinelaw18_known) fun r439 =>
                 some r439
                else
                 some false
             else
              if (r423.2.2.2 == (7 : Int)) = true then
               if (!r7.1) = true then
                Option.bind (m_ticketlinelaw18_known) fun r441 =>
                some r441
               else
                if (r423.2.2.2 == (13 : Int)) = true then
                 Option.bind (m_ticketlinelaw18_known) fun r443 =>
                 some r443
                else
                 some false
              else
               if (r423.2.2.2 == (13 : Int)) = true then
                Option.bind (m_ticketlinelaw18_known) fun r445 =>
                some r445
               else
                some false
            else
             some false
           else
            Option.bind (m_ticketlineref14_Valid r423.1) fun r446 =>
            if (!r446) = true then
             some false
            else
             Option.bind (m_ticketlineref14_Valid r423.2.1) fun r447 =>
             if (!r447) = true then
              some false
             else
              Option.bind (m_ticketlineref14_Pairs r423.1) fun r448 =>
              Option.bind (m_ticketlineref14_Pairs r423.2.1) fun r449 =>
              if fits (List.length r448 + List.length r449) 32 then
               Option.bind (m_ticketlineref14_Same (r448 ++ r449) (r10 ++ r11)) fun r450 =>
               if (!r450) = true then
                some false
               else
                Option.bind (m_merge_Fits r423.1 r423.2.1) fun r451 =>
                if (r451.2 != (0 : Int)) = true then
                 some false
                else
                 Option.bind (m_ticketlineref14_Pairs r423.1) fun r453 =>
                 Option.bind (m_ticketlineref14_Sum r453) fun r454 =>
                 Option.bind (m_ticketlineref14_Pairs r423.2.1) fun r455 =>
                 Option.bind (m_ticketlineref14_Sum r455) fun r456 =>
                 if (decide ((IntKind.i64.wrap (r454 - r456)) > (9 : Int))) = true then
                  some false
                 else
                  if (decide ((IntKind.i64.wrap (r456 - r454)) > (9 : Int))) = true then
                   some false
                  else
                   if (!r421.1) = true then
                    if (!r422.1) = true then
                     Option.bind (m_ticketlinelaw18_known) fun r461 =>
                     some r461
                    else
                     if r7.1 = true then
                      Option.bind (m_ticketlinelaw18_known) fun r462 =>
                      some r462
                     else
                      if (decide (r454 ≥ (36 : Int))) = true then
                       if (decide (r456 ≥ (36 : Int))) = true then
                        Option.bind (m_ticketlinelaw18_known) fun r465 =>
                        some r465
                       else
                        some false
                      else
                       some false
                   else
                    if r7.1 = true then
                     Option.bind (m_ticketlinelaw18_known) fun r466 =>
                     some r466
                    else
                     if (decide (r454 ≥ (36 : Int))) = true then
                      if (decide (r456 ≥ (36 : Int))) = true then
                       Option.bind (m_ticketlinelaw18_known) fun r469 =>
                       some r469
                      else
                       some false
                     else
                      some false
              else none
      else
       if (r12.2 != (0 : Int)) = true then
        if (r12.2 != (7 : Int)) = true then
         if (r12.2 != (13 : Int)) = true then
          some false
         else
          Option.bind (m_merge_Poor r1.1) fun r473 =>
          Option.bind (m_merge_Poor r3.1) fun r474 =>
          Option.bind (m_merge_Borrow r1.1 r3.1) fun r475 =>
          if (r473.2 != (0 : Int)) = true then
           some false
          else
           if (r474.2 != (0 : Int)) = true then
            some false
           else
            if (r475.2.2.2 != (0 : Int)) = true then
             if (strEq r475.2.2.1 (⟨#[]⟩ : ByteArray)) = true then
              if (r475.2.2.2 == (9 : Int)) = true then
               if (decide ((((r10 ++ r11)).length : Int) < (2 : Int))) = true then
                Option.bind (m_ticketlinelaw18_known) fun r485 =>
                some r485
               else
                if (r475.2.2.2 == (7 : Int)) = true then
                 if (!r7.1) = true then
                  Option.bind (m_ticketlinelaw18_known) fun r487 =>
                  some r487
                 else
                  if (r475.2.2.2 == (13 : Int)) = true then
                   Option.bind (m_ticketlinelaw18_known) fun r489 =>
                   some r489
                  else
                   some false
                else
                 if (r475.2.2.2 == (13 : Int)) = true then
                  Option.bind (m_ticketlinelaw18_known) fun r491 =>
                  some r491
                 else
                  some false
              else
               if (r475.2.2.2 == (7 : Int)) = true then
                if (!r7.1) = true then
                 Option.bind (m_ticketlinelaw18_known) fun r493 =>
                 some r493
                else
                 if (r475.2.2.2 == (13 : Int)) = true then
                  Option.bind (m_ticketlinelaw18_known) fun r495 =>
                  some r495
                 else
                  some false
               else
                if (r475.2.2.2 == (13 : Int)) = true then
                 Option.bind (m_ticketlinelaw18_known) fun r497 =>
                 some r497
                else
                 some false
             else
              some false
            else
             Option.bind (m_ticketlineref14_Valid r475.1) fun r498 =>
             if (!r498) = true then
              some false
             else
              Option.bind (m_ticketlineref14_Valid r475.2.1) fun r499 =>
              if (!r499) = true then
               some false
              else
               Option.bind (m_ticketlineref14_Pairs r475.1) fun r500 =>
               Option.bind (m_ticketlineref14_Pairs r475.2.1) fun r501 =>
               if fits (List.length r500 + List.length r501) 32 then
                Option.bind (m_ticketlineref14_Same (r500 ++ r501) (r10 ++ r11)) fun r502 =>
                if (!r502) = true then
                 some false
                else
                 Option.bind (m_merge_Fits r475.1 r475.2.1) fun r503 =>
                 if (r503.2 != (0 : Int)) = true then
                  some false
                 else
                  Option.bind (m_ticketlineref14_Pairs r475.1) fun r505 =>
                  Option.bind (m_ticketlineref14_Sum r505) fun r506 =>
                  Option.bind (m_ticketlineref14_Pairs r475.2.1) fun r507 =>
                  Option.bind (m_ticketlineref14_Sum r507) fun r508 =>
                  if (decide ((IntKind.i64.wrap (r506 - r508)) > (9 : Int))) = true then
                   some false
                  else
                   if (decide ((IntKind.i64.wrap (r508 - r506)) > (9 : Int))) = true then
                    some false
                   else
                    if (!r473.1) = true then
                     if (!r474.1) = true then
                      Option.bind (m_ticketlinelaw18_known) fun r513 =>
                      some r513
                     else
                      if r7.1 = true then
                       Option.bind (m_ticketlinelaw18_known) fun r514 =>
                       some r514
                      else
                       if (decide (r506 ≥ (36 : Int))) = true then
                        if (decide (r508 ≥ (36 : Int))) = true then
                         Option.bind (m_ticketlinelaw18_known) fun r517 =>
                         some r517
                        else
                         some false
                       else
                        some false
                    else
                     if r7.1 = true then
                      Option.bind (m_ticketlinelaw18_known) fun r518 =>
                      some r518
                     else
                      if (decide (r506 ≥ (36 : Int))) = true then
                       if (decide (r508 ≥ (36 : Int))) = true then
                        Option.bind (m_ticketlinelaw18_known) fun r521 =>
                        some r521
                       else
                        some false
                      else
                       some false
               else none
        else
         Option.bind (m_merge_Poor r1.1) fun r522 =>
         Option.bind (m_merge_Poor r3.1) fun r523 =>
         Option.bind (m_merge_Borrow r1.1 r3.1) fun r524 =>
         if (r522.2 != (0 : Int)) = true then
          some false
         else
          if (r523.2 != (0 : Int)) = true then
           some false
          else
           if (r524.2.2.2 != (0 : Int)) = true then
            if (strEq r524.2.2.1 (⟨#[]⟩ : ByteArray)) = true then
             if (r524.2.2.2 == (9 : Int)) = true then
              if (decide ((((r10 ++ r11)).length : Int) < (2 : Int))) = true then
               Option.bind (m_ticketlinelaw18_known) fun r534 =>
               some r534
              else
               if (r524.2.2.2 == (7 : Int)) = true then
                if (!r7.1) = true then
                 Option.bind (m_ticketlinelaw18_known) fun r536 =>
                 some r536
                else
                 if (r524.2.2.2 == (13 : Int)) = true then
                  Option.bind (m_ticketlinelaw18_known) fun r538 =>
                  some r538
                 else
                  some false
               else
                if (r524.2.2.2 == (13 : Int)) = true then
                 Option.bind (m_ticketlinelaw18_known) fun r540 =>
                 some r540
                else
                 some false
             else
              if (r524.2.2.2 == (7 : Int)) = true then
               if (!r7.1) = true then
                Option.bind (m_ticketlinelaw18_known) fun r542 =>
                some r542
               else
                if (r524.2.2.2 == (13 : Int)) = true then
                 Option.bind (m_ticketlinelaw18_known) fun r544 =>
                 some r544
                else
                 some false
              else
               if (r524.2.2.2 == (13 : Int)) = true then
                Option.bind (m_ticketlinelaw18_known) fun r546 =>
                some r546
               else
                some false
            else
             some false
           else
            Option.bind (m_ticketlineref14_Valid r524.1) fun r547 =>
            if (!r547) = true then
             some false
            else
             Option.bind (m_ticketlineref14_Valid r524.2.1) fun r548 =>
             if (!r548) = true then
              some false
             else
              Option.bind (m_ticketlineref14_Pairs r524.1) fun r549 =>
              Option.bind (m_ticketlineref14_Pairs r524.2.1) fun r550 =>
              if fits (List.length r549 + List.length r550) 32 then
               Option.bind (m_ticketlineref14_Same (r549 ++ r550) (r10 ++ r11)) fun r551 =>
               if (!r551) = true then
                some false
               else
                Option.bind (m_merge_Fits r524.1 r524.2.1) fun r552 =>
                if (r552.2 != (0 : Int)) = true then
                 some false
                else
                 Option.bind (m_ticketlineref14_Pairs r524.1) fun r554 =>
                 Option.bind (m_ticketlineref14_Sum r554) fun r555 =>
                 Option.bind (m_ticketlineref14_Pairs r524.2.1) fun r556 =>
                 Option.bind (m_ticketlineref14_Sum r556) fun r557 =>
                 if (decide ((IntKind.i64.wrap (r555 - r557)) > (9 : Int))) = true then
                  some false
                 else
                  if (decide ((IntKind.i64.wrap (r557 - r555)) > (9 : Int))) = true then
                   some false
                  else
                   if (!r522.1) = true then
                    if (!r523.1) = true then
                     Option.bind (m_ticketlinelaw18_known) fun r562 =>
                     some r562
                    else
                     if r7.1 = true then
                      Option.bind (m_ticketlinelaw18_known) fun r563 =>
                      some r563
                     else
                      if (decide (r555 ≥ (36 : Int))) = true then
                       if (decide (r557 ≥ (36 : Int))) = true then
                        Option.bind (m_ticketlinelaw18_known) fun r566 =>
                        some r566
                       else
                        some false
                      else
                       some false
                   else
                    if r7.1 = true then
                     Option.bind (m_ticketlinelaw18_known) fun r567 =>
                     some r567
                    else
                     if (decide (r555 ≥ (36 : Int))) = true then
                      if (decide (r557 ≥ (36 : Int))) = true then
                       Option.bind (m_ticketlinelaw18_known) fun r570 =>
                       some r570
                      else
                       some false
                     else
                      some false
              else none
       else
        Option.bind (m_merge_Poor r1.1) fun r571 =>
        Option.bind (m_merge_Poor r3.1) fun r572 =>
        Option.bind (m_merge_Borrow r1.1 r3.1) fun r573 =>
        if (r571.2 != (0 : Int)) = true then
         some false
        else
         if (r572.2 != (0 : Int)) = true then
          some false
         else
          if (r573.2.2.2 != (0 : Int)) = true then
           if (strEq r573.2.2.1 (⟨#[]⟩ : ByteArray)) = true then
            if (r573.2.2.2 == (9 : Int)) = true then
             if (decide ((((r10 ++ r11)).length : Int) < (2 : Int))) = true then
              Option.bind (m_ticketlinelaw18_known) fun r583 =>
              some r583
             else
              if (r573.2.2.2 == (7 : Int)) = true then
               if (!r7.1) = true then
                Option.bind (m_ticketlinelaw18_known) fun r585 =>
                some r585
               else
                if (r573.2.2.2 == (13 : Int)) = true then
                 Option.bind (m_ticketlinelaw18_known) fun r587 =>
                 some r587
                else
                 some false
              else
               if (r573.2.2.2 == (13 : Int)) = true then
                Option.bind (m_ticketlinelaw18_known) fun r589 =>
                some r589
               else
                some false
            else
             if (r573.2.2.2 == (7 : Int)) = true then
              if (!r7.1) = true then
               Option.bind (m_ticketlinelaw18_known) fun r591 =>
               some r591
              else
               if (r573.2.2.2 == (13 : Int)) = true then
                Option.bind (m_ticketlinelaw18_known) fun r593 =>
                some r593
               else
                some false
             else
              if (r573.2.2.2 == (13 : Int)) = true then
               Option.bind (m_ticketlinelaw18_known) fun r595 =>
               some r595
              else
               some false
           else
            some false
          else
           Option.bind (m_ticketlineref14_Valid r573.1) fun r596 =>
           if (!r596) = true then
            some false
           else
            Option.bind (m_ticketlineref14_Valid r573.2.1) fun r597 =>
            if (!r597) = true then
             some false
            else
             Option.bind (m_ticketlineref14_Pairs r573.1) fun r598 =>
             Option.bind (m_ticketlineref14_Pairs r573.2.1) fun r599 =>
             if fits (List.length r598 + List.length r599) 32 then
              Option.bind (m_ticketlineref14_Same (r598 ++ r599) (r10 ++ r11)) fun r600 =>
              if (!r600) = true then
               some false
              else
               Option.bind (m_merge_Fits r573.1 r573.2.1) fun r601 =>
               if (r601.2 != (0 : Int)) = true then
                some false
               else
                Option.bind (m_ticketlineref14_Pairs r573.1) fun r603 =>
                Option.bind (m_ticketlineref14_Sum r603) fun r604 =>
                Option.bind (m_ticketlineref14_Pairs r573.2.1) fun r605 =>
                Option.bind (m_ticketlineref14_Sum r605) fun r606 =>
                if (decide ((IntKind.i64.wrap (r604 - r606)) > (9 : Int))) = true then
                 some false
                else
                 if (decide ((IntKind.i64.wrap (r606 - r604)) > (9 : Int))) = true then
                  some false
                 else
                  if (!r571.1) = true then
                   if (!r572.1) = true then
                    Option.bind (m_ticketlinelaw18_known) fun r611 =>
                    some r611
                   else
                    if r7.1 = true then
                     Option.bind (m_ticketlinelaw18_known) fun r612 =>
                     some r612
                    else
                     if (decide (r604 ≥ (36 : Int))) = true then
                      if (decide (r606 ≥ (36 : Int))) = true then
                       Option.bind (m_ticketlinelaw18_known) fun r615 =>
                       some r615
                      else
                       some false
                     else
                      some false
                  else
                   if r7.1 = true then
                    Option.bind (m_ticketlinelaw18_known) fun r616 =>
                    some r616
                   else
                    if (decide (r604 ≥ (36 : Int))) = true then
                     if (decide (r606 ≥ (36 : Int))) = true then
                      Option.bind (m_ticketlinelaw18_known) fun r619 =>
                      some r619
                     else
                      some false
                    else
                     some false
             else none
    else none
end Go.Ev.M
