/- A part of the proof of a statement of this seat: the plain models of the functions. No condition. -/
import Derived.Test.YtfohnbfhajkelaaM14
import Derived.Test.YtfohnbfhajkelaaM15
import Derived.Test.YtfohnbfhajkelaaM19
import Derived.Test.YtfohnbfhajkelaaM17
set_option linter.unusedVariables false
namespace Go.Ev.M
open Go Go.Ev
def m_page_find (x0 : (List Int)) (x1 : ByteArray) (x2 : ByteArray) : Option (Int × Bool × Int) :=
  Option.bind (m_search_Find x0 x1) fun r1 =>
  if (r1.2.2 != (0 : Int)) = true then
  some ((0 : Int), false, r1.2.2)
  else
  Option.bind (m_slot_Level x0) fun r3 =>
  Option.bind (m_page_allowed (r3 == (0 : Int)) r1.1 x1 x2) fun r5 =>
  some (r1.1, r1.2.1, r5)
def m_page_room (x0 : (List Int)) (x1 : ByteArray) (x2 : ByteArray) (x3 : Int) : Option Int :=
  Option.bind (m_slot_Load x0) fun r1 =>
  if (r1.2 != (0 : Int)) = true then
  some r1.2
  else
  Option.bind (m_slot_Cost x1 x2) fun r4 =>
  if (decide ((IntKind.i64.wrap ((IntKind.i64.wrap (r1.1 - x3)) + r4)) > (108 : Int))) = true then
   some (7 : Int)
  else
   some (0 : Int)
def m_page_add (x0 : (List Int)) (x1 : Int) (x2 : ByteArray) (x3 : ByteArray) : Option (Int × (List Int)) :=
  Option.bind (m_slot_Gap x0) fun r1 =>
  if (r1.2 != (0 : Int)) = true then
  some (r1.2, x0)
  else
  Option.bind (m_slot_Cost x2 x3) fun r3 =>
  if (decide (r3 > r1.1)) = true then
   Option.bind (m_slot_Pairs x0) fun r5 =>
   if (r5.2 != (0 : Int)) = true then
    some (r5.2, x0)
   else
    Option.bind (m_page_compact x0 r5.1) fun r7 =>
    Option.bind (m_page_record r7 x2 x3) fun r8 =>
    let v12 := (IntKind.i64.wrap ((IntKind.i64.wrap ((20 : Int) + (IntKind.i64.wrap (rd (.int .u64) r8 (9 : Int))))) - (1 : Int)))
    if (0 : Int) ≤ v12 then
     if v12 < (128 : Int) then
      let v15 := (IntKind.i64.wrap ((IntKind.i64.wrap ((20 : Int) + x1)) + (1 : Int)))
      let v16 := (IntKind.i64.wrap (v12 + (1 : Int)))
      if (0 : Int) ≤ v16 then
       if v16 ≤ (128 : Int) then
        if (0 : Int) ≤ v15 then
         if v15 ≤ v16 then
          let v17 := (IntKind.i64.wrap ((20 : Int) + x1))
          if (0 : Int) ≤ v12 then
           if v12 ≤ (128 : Int) then
            if (0 : Int) ≤ v17 then
             if v17 ≤ v12 then
              let v20 := (IntKind.i64.wrap ((20 : Int) + x1))
              if (0 : Int) ≤ v20 then
               if v20 < (128 : Int) then
                some ((0 : Int), (List.set (splice r8 v15 (List.take (v16 - v15).toNat (win r8 v17 (v12 - v17)))) v20.toNat (rd (.int .u64) r8 v12)))
               else none
              else none
             else none
            else none
           else none
          else none
         else none
        else none
       else none
      else none
     else none
    else none
  else
   Option.bind (m_page_record x0 x2 x3) fun r22 =>
   let v26 := (IntKind.i64.wrap ((IntKind.i64.wrap ((20 : Int) + (IntKind.i64.wrap (rd (.int .u64) r22 (9 : Int))))) - (1 : Int)))
   if (0 : Int) ≤ v26 then
    if v26 < (128 : Int) then
     let v29 := (IntKind.i64.wrap ((IntKind.i64.wrap ((20 : Int) + x1)) + (1 : Int)))
     let v30 := (IntKind.i64.wrap (v26 + (1 : Int)))
     if (0 : Int) ≤ v30 then
      if v30 ≤ (128 : Int) then
       if (0 : Int) ≤ v29 then
        if v29 ≤ v30 then
         let v31 := (IntKind.i64.wrap ((20 : Int) + x1))
         if (0 : Int) ≤ v26 then
          if v26 ≤ (128 : Int) then
           if (0 : Int) ≤ v31 then
            if v31 ≤ v26 then
             let v34 := (IntKind.i64.wrap ((20 : Int) + x1))
             if (0 : Int) ≤ v34 then
              if v34 < (128 : Int) then
               some ((0 : Int), (List.set (splice r22 v29 (List.take (v30 - v29).toNat (win r22 v31 (v26 - v31)))) v34.toNat (rd (.int .u64) r22 v26)))
              else none
             else none
            else none
           else none
          else none
         else none
        else none
       else none
      else none
     else none
    else none
   else none
def m_page_Insert (x0 : (List Int)) (x1 : ByteArray) (x2 : ByteArray) : Option ((List Int) × Int) :=
  Option.bind (m_page_find x0 x1 x2) fun r2 =>
  if (r2.2.2 != (0 : Int)) = true then
  some ((List.replicate 128 (0 : Int)), r2.2.2)
  else
  if r2.2.1 = true then
   some ((List.replicate 128 (0 : Int)), (11 : Int))
  else
   Option.bind (m_page_room x0 x1 x2 (0 : Int)) fun r6 =>
   if (r6 != (0 : Int)) = true then
    some ((List.replicate 128 (0 : Int)), r6)
   else
    Option.bind (m_page_add x0 r2.1 x1 x2) fun r9 =>
    if (r9.1 != (0 : Int)) = true then
     some ((List.replicate 128 (0 : Int)), r9.1)
    else
     some (r9.2, (0 : Int))
def m_ticketlinelaw16_inserts (x0 : (List Int)) (x1 : ByteArray) (x2 : ByteArray) (x3 : (List Int)) (x4 : Int) : Option Bool :=
  Option.bind (m_page_Insert x0 x1 x2) fun r1 =>
  if (Ty.beq (.arr 128 (.int .u64)) r1.1 x3) = true then
  some (r1.2 == x4)
  else
  some false
def m_page_take (x0 : (List Int)) (x1 : Int) : Option (List Int) :=
  let v4 := (IntKind.i64.wrap ((IntKind.i64.wrap ((20 : Int) + (IntKind.i64.wrap (rd (.int .u64) x0 (9 : Int))))) - (1 : Int)))
  let v5 := (IntKind.i64.wrap ((20 : Int) + x1))
  if (0 : Int) ≤ v4 then
  if v4 ≤ (128 : Int) then
   if (0 : Int) ≤ v5 then
    if v5 ≤ v4 then
     let v7 := (IntKind.i64.wrap ((IntKind.i64.wrap ((20 : Int) + x1)) + (1 : Int)))
     let v8 := (IntKind.i64.wrap (v4 + (1 : Int)))
     if (0 : Int) ≤ v8 then
      if v8 ≤ (128 : Int) then
       if (0 : Int) ≤ v7 then
        if v7 ≤ v8 then
         if (0 : Int) ≤ v4 then
          if v4 < (128 : Int) then
           let v11 := (List.set (splice x0 v5 (List.take (v4 - v5).toNat (win x0 v7 (v8 - v7)))) v4.toNat (0 : Int))
           some (List.set v11 9 (IntKind.u64.wrap ((rd (.int .u64) v11 (9 : Int)) - (1 : Int))))
          else none
         else none
        else none
       else none
      else none
     else none
    else none
   else none
  else none
  else none
def m_page_Remove (x0 : (List Int)) (x1 : ByteArray) : Option ((List Int) × ByteArray × Int) :=
  Option.bind (m_search_Find x0 x1) fun r2 =>
  if (r2.2.2 != (0 : Int)) = true then
  some ((List.replicate 128 (0 : Int)), (⟨#[]⟩ : ByteArray), r2.2.2)
  else
  if (strEq x1 (⟨#[]⟩ : ByteArray)) = true then
   Option.bind (m_slot_Level x0) fun r6 =>
   if (r6 == (0 : Int)) = true then
    some ((List.replicate 128 (0 : Int)), (⟨#[]⟩ : ByteArray), (2 : Int))
   else
    if (decide ((x1.size : Int) > (24 : Int))) = true then
     some ((List.replicate 128 (0 : Int)), (⟨#[]⟩ : ByteArray), (5 : Int))
    else
     if (!r2.2.1) = true then
      some ((List.replicate 128 (0 : Int)), (⟨#[]⟩ : ByteArray), (9 : Int))
     else
      Option.bind (m_slot_Value x0 r2.1) fun r12 =>
      if (r12.2 != (0 : Int)) = true then
       some ((List.replicate 128 (0 : Int)), (⟨#[]⟩ : ByteArray), r12.2)
      else
       Option.bind (m_page_take x0 r2.1) fun r15 =>
       some (r15, r12.1, (0 : Int))
  else
   if (decide ((x1.size : Int) > (24 : Int))) = true then
    some ((List.replicate 128 (0 : Int)), (⟨#[]⟩ : ByteArray), (5 : Int))
   else
    if (!r2.2.1) = true then
     some ((List.replicate 128 (0 : Int)), (⟨#[]⟩ : ByteArray), (9 : Int))
    else
     Option.bind (m_slot_Value x0 r2.1) fun r19 =>
     if (r19.2 != (0 : Int)) = true then
      some ((List.replicate 128 (0 : Int)), (⟨#[]⟩ : ByteArray), r19.2)
     else
      Option.bind (m_page_take x0 r2.1) fun r22 =>
      some (r22, r19.1, (0 : Int))
def m_ticketlinelaw16_removes (x0 : (List Int)) (x1 : ByteArray) (x2 : (List Int)) (x3 : ByteArray) (x4 : Int) : Option Bool :=
  Option.bind (m_page_Remove x0 x1) fun r1 =>
  if (Ty.beq (.arr 128 (.int .u64)) r1.1 x2) = true then
  if (strEq r1.2.1 x3) = true then
   some (r1.2.2 == x4)
  else
   some false
  else
  some false
def m_page_Compact (x0 : (List Int)) : Option ((List Int) × Int) :=
  Option.bind (m_slot_Pairs x0) fun r2 =>
  if (r2.2 != (0 : Int)) = true then
  some ((List.replicate 128 (0 : Int)), r2.2)
  else
  Option.bind (m_page_compact x0 r2.1) fun r5 =>
  some (r5, (0 : Int))
def m_ticketlinelaw16_number (x0 : Int) (x1 : ByteArray) (x2 : Int) : Option Bool :=
  Option.bind (m_page_Number x0) fun r1 =>
  if (strEq r1.1 x1) = true then
  some (r1.2 == x2)
  else
  some false
def m_page_Put (x0 : (List Int)) (x1 : ByteArray) (x2 : ByteArray) : Option ((List Int) × Int) :=
  Option.bind (m_page_find x0 x1 x2) fun r2 =>
  if (r2.2.2 != (0 : Int)) = true then
  some ((List.replicate 128 (0 : Int)), r2.2.2)
  else
  if (!r2.2.1) = true then
   Option.bind (m_page_Insert x0 x1 x2) fun r5 =>
   some (r5.1, r5.2)
  else
   Option.bind (m_slot_Value x0 r2.1) fun r6 =>
   if (r6.2 != (0 : Int)) = true then
    some ((List.replicate 128 (0 : Int)), r6.2)
   else
    Option.bind (m_slot_Cost x1 r6.1) fun r9 =>
    Option.bind (m_page_room x0 x1 x2 r9) fun r10 =>
    if (r10 != (0 : Int)) = true then
     some ((List.replicate 128 (0 : Int)), r10)
    else
     Option.bind (m_keys_Words (r6.1.size : Int)) fun r14 =>
     Option.bind (m_keys_Words (x2.size : Int)) fun r15 =>
     if (r14 == r15) = true then
      Option.bind (m_keys_Pack x2) fun r16 =>
      if (r16.2 != (0 : Int)) = true then
       some ((List.replicate 128 (0 : Int)), r16.2)
      else
       let v19 := (IntKind.i64.wrap ((20 : Int) + r2.1))
       if (0 : Int) ≤ v19 then
        if v19 < (128 : Int) then
         let v20 := (rd (.int .u64) x0 v19)
         Option.bind (m_keys_Words (x1.size : Int)) fun r23 =>
         let v24 := (IntKind.i64.wrap ((IntKind.i64.wrap (shrI .u64 v20 (16 : Int))) + r23))
         if (0 : Int) ≤ v24 then
          if v24 ≤ (128 : Int) then
           let v25 := ((128 : Int) - v24)
           let v28 := (IntKind.i64.wrap ((20 : Int) + r2.1))
           if (0 : Int) ≤ v28 then
            if v28 < (128 : Int) then
             some ((List.set (splice x0 v24 (List.take v25.toNat r16.1)) v28.toNat (bor .u64 (bandn .u64 v20 (255 : Int)) (IntKind.u64.wrap (x2.size : Int)))), (0 : Int))
            else none
           else none
          else none
         else none
        else none
       else none
     else
      Option.bind (m_page_take x0 r2.1) fun r33 =>
      Option.bind (m_page_add r33 r2.1 x1 x2) fun r34 =>
      if (r34.1 != (0 : Int)) = true then
       some ((List.replicate 128 (0 : Int)), r34.1)
      else
       some (r34.2, (0 : Int))
def m_ticketlinelaw16_known : Option Bool :=
  Option.bind (m_page_Of (0 : Int) (⟨#[]⟩ : ByteArray) (⟨#[]⟩ : ByteArray) (0 : Int) ([((⟨#[98]⟩ : ByteArray), ((⟨#[49]⟩ : ByteArray), ())), ((⟨#[100]⟩ : ByteArray), ((⟨#[50]⟩ : ByteArray), ()))] : List (ByteArray × (ByteArray × Unit)))) fun r2 =>
  if (r2.2 != (0 : Int)) = true then
  some false
  else
  if ((rd (.int .u64) r2.1 (11 : Int)) != (124 : Int)) = true then
   some false
  else
   if ((rd (.int .u64) r2.1 (20 : Int)) != (8257793 : Int)) = true then
    some false
   else
    if ((rd (.int .u64) r2.1 (21 : Int)) != (8126721 : Int)) = true then
     some false
    else
     Option.bind (m_page_Insert r2.1 (⟨#[99]⟩ : ByteArray) (⟨#[51]⟩ : ByteArray)) fun r11 =>
     if (r11.2 != (0 : Int)) = true then
      some false
     else
      if ((rd (.int .u64) r11.1 (9 : Int)) != (3 : Int)) = true then
       some false
      else
       if ((rd (.int .u64) r11.1 (11 : Int)) != (122 : Int)) = true then
        some false
       else
        if ((rd (.int .u64) r11.1 (20 : Int)) != (rd (.int .u64) r2.1 (20 : Int))) = true then
         some false
        else
         if ((rd (.int .u64) r11.1 (21 : Int)) != (7995649 : Int)) = true then
          some false
         else
          if ((rd (.int .u64) r11.1 (22 : Int)) != (rd (.int .u64) r2.1 (21 : Int))) = true then
           some false
          else
           Option.bind (m_page_Remove r2.1 (⟨#[98]⟩ : ByteArray)) fun r24 =>
           if (r24.2.2 != (0 : Int)) = true then
            some false
           else
            if ((rd (.int .u64) r24.1 (9 : Int)) != (1 : Int)) = true then
             some false
            else
             if ((rd (.int .u64) r24.1 (11 : Int)) != (124 : Int)) = true then
              some false
             else
              if ((rd (.int .u64) r24.1 (20 : Int)) != (8126721 : Int)) = true then
               some false
              else
               if ((rd (.int .u64) r24.1 (21 : Int)) != (0 : Int)) = true then
                some false
               else
                if (!strEq r24.2.1 (⟨#[49]⟩ : ByteArray)) = true then
                 some false
                else
                 Option.bind (m_page_Compact r24.1) fun r36 =>
                 Option.bind (m_page_Put r2.1 (⟨#[98]⟩ : ByteArray) (⟨#[57]⟩ : ByteArray)) fun r38 =>
                 Option.bind (m_page_Put r2.1 (⟨#[98]⟩ : ByteArray) (⟨#[]⟩ : ByteArray)) fun r40 =>
                 if (r36.2 != (0 : Int)) = true then
                  some false
                 else
                  if (r38.2 != (0 : Int)) = true then
                   some false
                  else
                   if (r40.2 != (0 : Int)) = true then
                    some false
                   else
                    if ((rd (.int .u64) r36.1 (11 : Int)) != (126 : Int)) = true then
                     some false
                    else
                     if ((rd (.int .u64) r36.1 (20 : Int)) != (8257793 : Int)) = true then
                      some false
                     else
                      if ((rd (.int .u64) r38.1 (11 : Int)) != (124 : Int)) = true then
                       some false
                      else
                       if ((rd (.int .u64) r38.1 (20 : Int)) != (rd (.int .u64) r2.1 (20 : Int))) = true then
                        some false
                       else
                        if ((rd (.int .u64) r40.1 (11 : Int)) != (123 : Int)) = true then
                         some false
                        else
                         if ((rd (.int .u64) r40.1 (21 : Int)) != (8126721 : Int)) = true then
                          some false
                         else
                          Option.bind (m_ticketlineref14_Pairs r38.1) fun r57 =>
                          if ((r57.length : Int) != (2 : Int)) = true then
                           some false
                          else
                           if (0 : Int) < (r57.length : Int) then
                            if (!strEq ((rd (.pair .str (.pair .str .nl)) r57 (0 : Int)).2.1) (⟨#[57]⟩ : ByteArray)) = true then
                             some false
                            else
                             Option.bind (m_ticketlinelaw16_inserts r2.1 (⟨#[98]⟩ : ByteArray) (⟨#[49]⟩ : ByteArray) (List.replicate 128 (0 : Int)) (11 : Int)) fun r63 =>
                             if r63 = true then
                              Option.bind (m_ticketlinelaw16_removes r2.1 (⟨#[120]⟩ : ByteArray) (List.replicate 128 (0 : Int)) (⟨#[]⟩ : ByteArray) (9 : Int)) fun r65 =>
                              if r65 = true then
                               Option.bind (m_ticketlinelaw16_inserts r2.1 (⟨#[]⟩ : ByteArray) (⟨#[49]⟩ : ByteArray) (List.replicate 128 (0 : Int)) (2 : Int)) fun r67 =>
                               if r67 = true then
                                Option.bind (m_ticketlinelaw16_number (0 : Int) (⟨#[]⟩ : ByteArray) (2 : Int)) fun r68 =>
                                if r68 = true then
                                 Option.bind (m_ticketlinelaw16_number (258 : Int) (⟨#[0, 0, 0, 0, 0, 0, 1, 2]⟩ : ByteArray) (0 : Int)) fun r69 =>
                                 some r69
                                else
                                 some false
                               else
                                some false
                              else
                               some false
                             else
                              some false
                           else none
def m_ticketlineref16_Take_l0_b (s0 : (Int → Int → (List Int) → (List Int) → Option (List Int))) (u0_0 : Int) (u0_1 : Int) (u0_2 : (List Int)) (u0_3 : (List Int)) : Option (List Int) :=
  if (decide (u0_1 < u0_0)) = true then
  let v8 := (IntKind.i64.wrap (u0_1 + (1 : Int)))
  if (0 : Int) ≤ v8 then
   if v8 < (128 : Int) then
    if (0 : Int) ≤ u0_1 then
     if u0_1 < (128 : Int) then
      s0 u0_0 (IntKind.i64.wrap (u0_1 + (1 : Int))) (List.set u0_2 u0_1.toNat (rd (.int .u64) u0_2 v8)) u0_3
     else none
    else none
   else none
  else none
  else
  if (0 : Int) ≤ u0_0 then
   if u0_0 < (128 : Int) then
    let v12 := (List.set u0_2 u0_0.toNat (0 : Int))
    some (List.set v12 9 (IntKind.u64.wrap ((rd (.int .u64) v12 (9 : Int)) - (1 : Int))))
   else none
  else none
def m_ticketlineref16_Take_l0 (N : Nat) : Nat → Int → Int → (List Int) → (List Int) → Option (List Int)
  | 0, _, _, _, _ => none
  | n + 1, u0_0, u0_1, u0_2, u0_3 => m_ticketlineref16_Take_l0_b (m_ticketlineref16_Take_l0 N n) u0_0 u0_1 u0_2 u0_3
def m_ticketlineref16_Take_a (l0 : (Int → Int → (List Int) → (List Int) → Option (List Int))) (x0 : (List Int)) (x1 : Int) : Option (List Int) :=
  l0 (IntKind.i64.wrap ((IntKind.i64.wrap ((20 : Int) + (IntKind.i64.wrap (rd (.int .u64) x0 (9 : Int))))) - (1 : Int))) (IntKind.i64.wrap ((20 : Int) + x1)) x0 (List.replicate 128 (0 : Int))
def m_ticketlineref16_Take (x0 : (List Int)) (x1 : Int) : Option (List Int) := m_ticketlineref16_Take_a (m_ticketlineref16_Take_l0 FUEL FUEL) x0 x1
def m_ticketlineref16_Compact_l1_b (s1 : (Int → (List Int) → (List (ByteArray × (ByteArray × Unit))) → (List Int) → Option (List Int))) (u1_0 : Int) (u1_1 : (List Int)) (u1_2 : (List (ByteArray × (ByteArray × Unit)))) (u1_3 : (List Int)) : Option (List Int) :=
  if (decide (u1_0 < (u1_2.length : Int))) = true then
  if (0 : Int) ≤ u1_0 then
   if u1_0 < (u1_2.length : Int) then
    Option.bind (m_ticketlineref14_Put u1_3 (((rd (.pair .str (.pair .str .nl)) u1_2 u1_0).1), (((rd (.pair .str (.pair .str .nl)) u1_2 u1_0).2.1), ()))) fun r13 =>
    s1 (IntKind.i64.wrap (u1_0 + (1 : Int))) u1_1 u1_2 r13
   else none
  else none
  else
  some u1_3
def m_ticketlineref16_Compact_l1 (N : Nat) : Nat → Int → (List Int) → (List (ByteArray × (ByteArray × Unit))) → (List Int) → Option (List Int)
  | 0, _, _, _, _ => none
  | n + 1, u1_0, u1_1, u1_2, u1_3 => m_ticketlineref16_Compact_l1_b (m_ticketlineref16_Compact_l1 N n) u1_0 u1_1 u1_2 u1_3
def m_ticketlineref16_Compact_l0_b (s0 : (Int → (List Int) → (List (ByteArray × (ByteArray × Unit))) → (List Int) → Option (List Int))) (l1 : (Int → (List Int) → (List (ByteArray × (ByteArray × Unit))) → (List Int) → Option (List Int))) (u0_0 : Int) (u0_1 : (List Int)) (u0_2 : (List (ByteArray × (ByteArray × Unit)))) (u0_3 : (List Int)) : Option (List Int) :=
  if (decide (u0_0 < (128 : Int))) = true then
  if (0 : Int) ≤ u0_0 then
   if u0_0 < (128 : Int) then
    s0 (IntKind.i64.wrap (u0_0 + (1 : Int))) u0_1 u0_2 (List.set u0_3 u0_0.toNat (0 : Int))
   else none
  else none
  else
  l1 (0 : Int) u0_1 u0_2 u0_3
def m_ticketlineref16_Compact_l0 (N : Nat) : Nat → Int → (List Int) → (List (ByteArray × (ByteArray × Unit))) → (List Int) → Option (List Int)
  | 0, _, _, _, _ => none
  | n + 1, u0_0, u0_1, u0_2, u0_3 => m_ticketlineref16_Compact_l0_b (m_ticketlineref16_Compact_l0 N n) (m_ticketlineref16_Compact_l1 N N) u0_0 u0_1 u0_2 u0_3
def m_ticketlineref16_Compact_a (l0 : (Int → (List Int) → (List (ByteArray × (ByteArray × Unit))) → (List Int) → Option (List Int))) (x0 : (List Int)) : Option (List Int) :=
  Option.bind (m_ticketlineref14_Pairs x0) fun r2 =>
  l0 (20 : Int) (List.replicate 128 (0 : Int)) r2 (List.set (List.set x0 9 (0 : Int)) 11 (128 : Int))
def m_ticketlineref16_Compact (x0 : (List Int)) : Option (List Int) := m_ticketlineref16_Compact_a (m_ticketlineref16_Compact_l0 FUEL FUEL) x0
def m_ticketlineref16_gap (x0 : (List Int)) : Option Int :=
  some (IntKind.i64.wrap ((IntKind.i64.wrap ((IntKind.i64.wrap (rd (.int .u64) x0 (11 : Int))) - (20 : Int))) - (IntKind.i64.wrap (rd (.int .u64) x0 (9 : Int)))))
def m_ticketlineref16_Add_l0_b (s0 : (Int → Int → Int → (List Int) → (List Int) → Option (List Int))) (u0_0 : Int) (u0_1 : Int) (u0_2 : Int) (u0_3 : (List Int)) (u0_4 : (List Int)) : Option (List Int) :=
  if (decide (u0_2 > (IntKind.i64.wrap ((20 : Int) + u0_0)))) = true then
  let v14 := (IntKind.i64.wrap (u0_2 - (1 : Int)))
  if (0 : Int) ≤ v14 then
   if v14 < (128 : Int) then
    if (0 : Int) ≤ u0_2 then
     if u0_2 < (128 : Int) then
      s0 u0_0 u0_1 (IntKind.i64.wrap (u0_2 - (1 : Int))) (List.set u0_3 u0_2.toNat (rd (.int .u64) u0_3 v14)) u0_4
     else none
    else none
   else none
  else none
  else
  let v18 := (IntKind.i64.wrap ((20 : Int) + u0_0))
  if (0 : Int) ≤ v18 then
   if v18 < (128 : Int) then
    some (List.set u0_3 v18.toNat u0_1)
   else none
  else none
def m_ticketlineref16_Add_l0 (N : Nat) : Nat → Int → Int → Int → (List Int) → (List Int) → Option (List Int)
  | 0, _, _, _, _, _ => none
  | n + 1, u0_0, u0_1, u0_2, u0_3, u0_4 => m_ticketlineref16_Add_l0_b (m_ticketlineref16_Add_l0 N n) u0_0 u0_1 u0_2 u0_3 u0_4
def m_ticketlineref16_Add_a (l0 : (Int → Int → Int → (List Int) → (List Int) → Option (List Int))) (x0 : (List Int)) (x1 : Int) (x2 : (ByteArray × (ByteArray × Unit))) : Option (List Int) :=
  let v1 := (List.replicate 128 (0 : Int))
  Option.bind (m_ticketlineref14_Cost x2) fun r2 =>
  Option.bind (m_ticketlineref16_gap x0) fun r3 =>
  if (decide (r2 > r3)) = true then
  Option.bind (m_ticketlineref16_Compact x0) fun r5 =>
  Option.bind (m_ticketlineref14_Put r5 x2) fun r6 =>
  let v10 := (IntKind.i64.wrap ((IntKind.i64.wrap ((20 : Int) + (IntKind.i64.wrap (rd (.int .u64) r6 (9 : Int))))) - (1 : Int)))
  if (0 : Int) ≤ v10 then
   if v10 < (128 : Int) then
    l0 x1 (rd (.int .u64) r6 v10) v10 r6 v1
   else none
  else none
  else
  Option.bind (m_ticketlineref14_Put x0 x2) fun r20 =>
  let v24 := (IntKind.i64.wrap ((IntKind.i64.wrap ((20 : Int) + (IntKind.i64.wrap (rd (.int .u64) r20 (9 : Int))))) - (1 : Int)))
  if (0 : Int) ≤ v24 then
   if v24 < (128 : Int) then
    l0 x1 (rd (.int .u64) r20 v24) v24 r20 v1
   else none
  else none
def m_ticketlineref16_Add (x0 : (List Int)) (x1 : Int) (x2 : (ByteArray × (ByteArray × Unit))) : Option (List Int) := m_ticketlineref16_Add_a (m_ticketlineref16_Add_l0 FUEL FUEL) x0 x1 x2
def m_ticketlineref16_Put_l0_b (s0 : (Int → Int → (List Int) → ByteArray → ByteArray → (List Int) → Int → Int → Int → (List Int) → Option ((List Int) × Int))) (u0_0 : Int) (u0_1 : Int) (u0_2 : (List Int)) (u0_3 : ByteArray) (u0_4 : ByteArray) (u0_5 : (List Int)) (u0_6 : Int) (u0_7 : Int) (u0_8 : Int) (u0_9 : (List Int)) : Option ((List Int) × Int) :=
  if (decide (u0_1 < (u0_9.length : Int))) = true then
  Option.bind (m_ticketlineref14_Words u0_7) fun r33 =>
  let v35 := (IntKind.i64.wrap ((IntKind.i64.wrap (u0_6 + r33)) + u0_1))
  if (0 : Int) ≤ u0_1 then
   if u0_1 < (u0_9.length : Int) then
    if (0 : Int) ≤ v35 then
     if v35 < (128 : Int) then
      s0 u0_0 (IntKind.i64.wrap (u0_1 + (1 : Int))) (List.set u0_2 v35.toNat (rd (.int .u64) u0_9 u0_1)) u0_3 u0_4 u0_5 u0_6 u0_7 u0_8 u0_9
     else none
    else none
   else none
  else none
  else
  let v39 := (IntKind.i64.wrap ((20 : Int) + u0_0))
  let v40 := (IntKind.i64.wrap ((20 : Int) + u0_0))
  if (0 : Int) ≤ v40 then
   if v40 < (128 : Int) then
    if (0 : Int) ≤ v39 then
     if v39 < (128 : Int) then
      some ((List.set u0_2 v39.toNat (IntKind.u64.wrap ((IntKind.u64.wrap ((rd (.int .u64) u0_2 v40) - (IntKind.u64.wrap u0_8))) + (IntKind.u64.wrap (u0_4.size : Int))))), (0 : Int))
     else none
    else none
   else none
  else none
def m_ticketlineref16_Put_l0 (N : Nat) : Nat → Int → Int → (List Int) → ByteArray → ByteArray → (List Int) → Int → Int → Int → (List Int) → Option ((List Int) × Int)
  | 0, _, _, _, _, _, _, _, _, _, _ => none
  | n + 1, u0_0, u0_1, u0_2, u0_3, u0_4, u0_5, u0_6, u0_7, u0_8, u0_9 => m_ticketlineref16_Put_l0_b (m_ticketlineref16_Put_l0 N n) u0_0 u0_1 u0_2 u0_3 u0_4 u0_5 u0_6 u0_7 u0_8 u0_9
def m_ticketlineref16_Put_a (l0 : (Int → Int → (List Int) → ByteArray → ByteArray → (List Int) → Int → Int → Int → (List Int) → Option ((List Int) × Int))) (x0 : (List Int)) (x1 : (ByteArray × (ByteArray × Unit))) (x2 : Bool) : Option ((List Int) × Int) :=
  let v1 := (List.replicate 128 (0 : Int))
  Option.bind (m_ticketlineref15_Bad x0) fun r2 =>
  if (r2 != (0 : Int)) = true then
  some ((List.replicate 128 (0 : Int)), r2)
  else
  Option.bind (m_ticketlineref14_Pairs x0) fun r5 =>
  Option.bind (m_ticketlineref15_Find r5 x1.1) fun r6 =>
  Option.bind (m_ticketlineref16_Allowed ((rd (.int .u64) x0 (8 : Int)) == (1 : Int)) r6.1 x1) fun r9 =>
  if (r9 != (0 : Int)) = true then
   some ((List.replicate 128 (0 : Int)), r9)
  else
   if r6.2 = true then
    if x2 = true then
     some ((List.replicate 128 (0 : Int)), (11 : Int))
    else
     Option.bind (m_ticketlineref14_Sum r5) fun r13 =>
     Option.bind (m_ticketlineref14_Cost x1) fun r14 =>
     let v15 := (IntKind.i64.wrap (r13 + r14))
     if r6.2 = true then
      if (0 : Int) ≤ r6.1 then
       if r6.1 < (r5.length : Int) then
        Option.bind (m_ticketlineref14_Cost (((rd (.pair .str (.pair .str .nl)) r5 r6.1).1), (((rd (.pair .str (.pair .str .nl)) r5 r6.1).2.1), ()))) fun r18 =>
        if (decide ((IntKind.i64.wrap (v15 - r18)) > (108 : Int))) = true then
         some ((List.replicate 128 (0 : Int)), (7 : Int))
        else
         if r6.2 = true then
          if (0 : Int) ≤ r6.1 then
           if r6.1 < (r5.length : Int) then
            Option.bind (m_ticketlineref14_Words (((rd (.pair .str (.pair .str .nl)) r5 r6.1).2.1).size : Int)) fun r24 =>
            Option.bind (m_ticketlineref14_Words (x1.2.1.size : Int)) fun r26 =>
            if (r24 == r26) = true then
             let v27 := (IntKind.i64.wrap ((20 : Int) + r6.1))
             if (0 : Int) ≤ v27 then
              if v27 < (128 : Int) then
               Option.bind (m_ticketlineref14_SlotOf (rd (.int .u64) x0 v27)) fun r29 =>
               Option.bind (m_ticketlineref14_Pack x1.2.1) fun r30 =>
               l0 r6.1 (0 : Int) x0 x1.1 x1.2.1 v1 r29.1.1 r29.1.2.1 r29.1.2.2.1 r30
              else none
             else none
            else
             if r6.2 = true then
              Option.bind (m_ticketlineref16_Take x0 r6.1) fun r48 =>
              Option.bind (m_ticketlineref16_Add r48 r6.1 x1) fun r49 =>
              some (r49, (0 : Int))
             else
              Option.bind (m_ticketlineref16_Add x0 r6.1 x1) fun r50 =>
              some (r50, (0 : Int))
           else none
          else none
         else
          if r6.2 = true then
           Option.bind (m_ticketlineref16_Take x0 r6.1) fun r51 =>
           Option.bind (m_ticketlineref16_Add r51 r6.1 x1) fun r52 =>
           some (r52, (0 : Int))
          else
           Option.bind (m_ticketlineref16_Add x0 r6.1 x1) fun r53 =>
           some (r53, (0 : Int))
       else none
      else none
     else
      if (decide (v15 > (108 : Int))) = true then
       some ((List.replicate 128 (0 : Int)), (7 : Int))
      else
       if r6.2 = true then
        if (0 : Int) ≤ r6.1 then
         if r6.1 < (r5.length : Int) then
          Option.bind (m_ticketlineref14_Words (((rd (.pair .str (.pair .str .nl)) r5 r6.1).2.1).size : Int)) fun r58 =>
          Option.bind (m_ticketlineref14_Words (x1.2.1.size : Int)) fun r60 =>
          if (r58 == r60) = true then
           let v61 := (IntKind.i64.wrap ((20 : Int) + r6.1))
           if (0 : Int) ≤ v61 then
            if v61 < (128 : Int) then
             Option.bind (m_ticketlineref14_SlotOf (rd (.int .u64) x0 v61)) fun r63 =>
             Option.bind (m_ticketlineref14_Pack x1.2.1) fun r64 =>
             l0 r6.1 (0 : Int) x0 x1.1 x1.2.1 v1 r63.1.1 r63.1.2.1 r63.1.2.2.1 r64
            else none
           else none
          else
           if r6.2 = true then
            Option.bind (m_ticketlineref16_Take x0 r6.1) fun r65 =>
            Option.bind (m_ticketlineref16_Add r65 r6.1 x1) fun r66 =>
            some (r66, (0 : Int))
           else
            Option.bind (m_ticketlineref16_Add x0 r6.1 x1) fun r67 =>
            some (r67, (0 : Int))
         else none
        else none
       else
        if r6.2 = true then
         Option.bind (m_ticketlineref16_Take x0 r6.1) fun r68 =>
         Option.bind (m_ticketlineref16_Add r68 r6.1 x1) fun r69 =>
         some (r69, (0 : Int))
        else
         Option.bind (m_ticketlineref16_Add x0 r6.1 x1) fun r70 =>
         some (r70, (0 : Int))
   else
    Option.bind (m_ticketlineref14_Sum r5) fun r71 =>
    Option.bind (m_ticketlineref14_Cost x1) fun r72 =>
    let v73 := (IntKind.i64.wrap (r71 + r72))
    if r6.2 = true then
     if (0 : Int) ≤ r6.1 then
      if r6.1 < (r5.length : Int) then
       Option.bind (m_ticketlineref14_Cost (((rd (.pair .str (.pair .str .nl)) r5 r6.1).1), (((rd (.pair .str (.pair .str .nl)) r5 r6.1).2.1), ()))) fun r76 =>
       if (decide ((IntKind.i64.wrap (v73 - r76)) > (108 : Int))) = true then
        some ((List.replicate 128 (0 : Int)), (7 : Int))
       else
        if r6.2 = true then
         if (0 : Int) ≤ r6.1 then
          if r6.1 < (r5.length : Int) then
           Option.bind (m_ticketlineref14_Words (((rd (.pair .str (.pair .str .nl)) r5 r6.1).2.1).size : Int)) fun r82 =>
           Option.bind (m_ticketlineref14_Words (x1.2.1.size : Int)) fun r84 =>
           if (r82 == r84) = true then
            let v85 := (IntKind.i64.wrap ((20 : Int) + r6.1))
            if (0 : Int) ≤ v85 then
             if v85 < (128 : Int) then
              Option.bind (m_ticketlineref14_SlotOf (rd (.int .u64) x0 v85)) fun r87 =>
              Option.bind (m_ticketlineref14_Pack x1.2.1) fun r88 =>
              l0 r6.1 (0 : Int) x0 x1.1 x1.2.1 v1 r87.1.1 r87.1.2.1 r87.1.2.2.1 r88
             else none
            else none
           else
            if r6.2 = true then
             Option.bind (m_ticketlineref16_Take x0 r6.1) fun r89 =>
             Option.bind (m_ticketlineref16_Add r89 r6.1 x1) fun r90 =>
             some (r90, (0 : Int))
            else
             Option.bind (m_ticketlineref16_Add x0 r6.1 x1) fun r91 =>
             some (r91, (0 : Int))
          else none
         else none
        else
         if r6.2 = true then
          Option.bind (m_ticketlineref16_Take x0 r6.1) fun r92 =>
          Option.bind (m_ticketlineref16_Add r92 r6.1 x1) fun r93 =>
          some (r93, (0 : Int))
         else
          Option.bind (m_ticketlineref16_Add x0 r6.1 x1) fun r94 =>
          some (r94, (0 : Int))
      else none
     else none
    else
     if (decide (v73 > (108 : Int))) = true then
      some ((List.replicate 128 (0 : Int)), (7 : Int))
     else
      if r6.2 = true then
       if (0 : Int) ≤ r6.1 then
        if r6.1 < (r5.length : Int) then
         Option.bind (m_ticketlineref14_Words (((rd (.pair .str (.pair .str .nl)) r5 r6.1).2.1).size : Int)) fun r99 =>
         Option.bind (m_ticketlineref14_Words (x1.2.1.size : Int)) fun r101 =>
         if (r99 == r101) = true then
          let v102 := (IntKind.i64.wrap ((20 : Int) + r6.1))
          if (0 : Int) ≤ v102 then
           if v102 < (128 : Int) then
            Option.bind (m_ticketlineref14_SlotOf (rd (.int .u64) x0 v102)) fun r104 =>
            Option.bind (m_ticketlineref14_Pack x1.2.1) fun r105 =>
            l0 r6.1 (0 : Int) x0 x1.1 x1.2.1 v1 r104.1.1 r104.1.2.1 r104.1.2.2.1 r105
           else none
          else none
         else
          if r6.2 = true then
           Option.bind (m_ticketlineref16_Take x0 r6.1) fun r106 =>
           Option.bind (m_ticketlineref16_Add r106 r6.1 x1) fun r107 =>
           some (r107, (0 : Int))
          else
           Option.bind (m_ticketlineref16_Add x0 r6.1 x1) fun r108 =>
           some (r108, (0 : Int))
        else none
       else none
      else
       if r6.2 = true then
        Option.bind (m_ticketlineref16_Take x0 r6.1) fun r109 =>
        Option.bind (m_ticketlineref16_Add r109 r6.1 x1) fun r110 =>
        some (r110, (0 : Int))
       else
        Option.bind (m_ticketlineref16_Add x0 r6.1 x1) fun r111 =>
        some (r111, (0 : Int))
def m_ticketlineref16_Put (x0 : (List Int)) (x1 : (ByteArray × (ByteArray × Unit))) (x2 : Bool) : Option ((List Int) × Int) := m_ticketlineref16_Put_a (m_ticketlineref16_Put_l0 FUEL FUEL) x0 x1 x2
def m_ticketlinelaw16_puts (x0 : (List Int)) (x1 : ByteArray) (x2 : ByteArray) (x3 : (List Int)) (x4 : Int) : Option Bool :=
  Option.bind (m_page_Put x0 x1 x2) fun r1 =>
  if (Ty.beq (.arr 128 (.int .u64)) r1.1 x3) = true then
  some (r1.2 == x4)
  else
  some false
def m_ticketlineref16_Remove (x0 : (List Int)) (x1 : ByteArray) : Option ((List Int) × ByteArray × Int) :=
  Option.bind (m_ticketlineref15_Bad x0) fun r2 =>
  if (r2 != (0 : Int)) = true then
  some ((List.replicate 128 (0 : Int)), (⟨#[]⟩ : ByteArray), r2)
  else
  Option.bind (m_ticketlineref14_Pairs x0) fun r5 =>
  Option.bind (m_ticketlineref15_Find r5 x1) fun r6 =>
  if (strEq x1 (⟨#[]⟩ : ByteArray)) = true then
   if ((rd (.int .u64) x0 (8 : Int)) == (1 : Int)) = true then
    some ((List.replicate 128 (0 : Int)), (⟨#[]⟩ : ByteArray), (2 : Int))
   else
    if (decide ((x1.size : Int) > (24 : Int))) = true then
     some ((List.replicate 128 (0 : Int)), (⟨#[]⟩ : ByteArray), (5 : Int))
    else
     if (!r6.2) = true then
      some ((List.replicate 128 (0 : Int)), (⟨#[]⟩ : ByteArray), (9 : Int))
     else
      Option.bind (m_ticketlineref16_Take x0 r6.1) fun r14 =>
      if (0 : Int) ≤ r6.1 then
       if r6.1 < (r5.length : Int) then
        some (r14, ((rd (.pair .str (.pair .str .nl)) r5 r6.1).2.1), (0 : Int))
       else none
      else none
  else
   if (decide ((x1.size : Int) > (24 : Int))) = true then
    some ((List.replicate 128 (0 : Int)), (⟨#[]⟩ : ByteArray), (5 : Int))
   else
    if (!r6.2) = true then
     some ((List.replicate 128 (0 : Int)), (⟨#[]⟩ : ByteArray), (9 : Int))
    else
     Option.bind (m_ticketlineref16_Take x0 r6.1) fun r19 =>
     if (0 : Int) ≤ r6.1 then
      if r6.1 < (r5.length : Int) then
       some (r19, ((rd (.pair .str (.pair .str .nl)) r5 r6.1).2.1), (0 : Int))
      else none
     else none
def m_ticketlinelaw16_right (x0 : (List Int)) (x1 : (ByteArray × (ByteArray × Unit))) : Option Bool :=
  Option.bind (m_ticketlineref16_Put x0 x1 true) fun r1 =>
  Option.bind (m_ticketlineref16_Put x0 x1 false) fun r3 =>
  Option.bind (m_ticketlineref16_Remove x0 x1.1) fun r5 =>
  Option.bind (m_ticketlinelaw16_inserts x0 x1.1 x1.2.1 r1.1 r1.2) fun r7 =>
  if (!r7) = true then
  some false
  else
  Option.bind (m_ticketlinelaw16_puts x0 x1.1 x1.2.1 r3.1 r3.2) fun r8 =>
  if (!r8) = true then
   some false
  else
   Option.bind (m_ticketlinelaw16_removes x0 x1.1 r5.1 r5.2.1 r5.2.2) fun r9 =>
   if (!r9) = true then
    some false
   else
    Option.bind (m_page_Compact x0) fun r10 =>
    Option.bind (m_ticketlineref14_Valid x0) fun r12 =>
    if (!r12) = true then
     if (Ty.beq (.arr 128 (.int .u64)) r10.1 (List.replicate 128 (0 : Int))) = true then
      some (r10.2 == (12 : Int))
     else
      some false
    else
     Option.bind (m_ticketlineref16_Compact x0) fun r16 =>
     if (Ty.beq (.arr 128 (.int .u64)) r10.1 r16) = true then
      some (r10.2 == (0 : Int))
     else
      some false
def m_ticketlinelaw16_PageChanges (x0 : (Int × (Int × (ByteArray × (ByteArray × ((List (ByteArray × (ByteArray × Unit))) × ((List Int) × ((List (Int × (Int × Unit))) × Unit)))))))) (x1 : ByteArray) (x2 : ByteArray) : Option Bool :=
  Option.bind (m_ticketlineref14_Plan_Page x0) fun r1 =>
  if (!r1.2) = true then
  Option.bind (m_ticketlinelaw16_known) fun r3 =>
  some r3
  else
  if (decide ((x1.size : Int) > (60 : Int))) = true then
   Option.bind (m_ticketlinelaw16_known) fun r5 =>
   some r5
  else
   if (decide ((x2.size : Int) > (60 : Int))) = true then
    Option.bind (m_ticketlinelaw16_known) fun r7 =>
    some r7
   else
    Option.bind (m_ticketlinelaw16_right r1.1 (x1, (x2, ()))) fun r8 =>
    if r8 = true then
     Option.bind (m_ticketlinelaw16_known) fun r9 =>
     some r9
    else
     some false
def m_ticketlinelaw16_PagePlays_l7_b (s0 : ((List (Int × (Bool × (Int × (ByteArray × (ByteArray × Unit)))))) → Int → (List Int) → Option Bool)) (u7_0 : (List (Int × (Bool × (Int × (ByteArray × (ByteArray × Unit))))))) (u7_1 : Int) (u7_2 : (List Int)) : Option Bool :=
  s0 u7_0 (IntKind.i64.wrap (u7_1 + (1 : Int))) u7_2
def m_ticketlinelaw16_PagePlays_l7 (N : Nat) (s0 : ((List (Int × (Bool × (Int × (ByteArray × (ByteArray × Unit)))))) → Int → (List Int) → Option Bool)) (u7_0 : (List (Int × (Bool × (Int × (ByteArray × (ByteArray × Unit))))))) (u7_1 : Int) (u7_2 : (List Int)) : Option Bool := m_ticketlinelaw16_PagePlays_l7_b s0 u7_0 u7_1 u7_2
def m_ticketlinelaw16_PagePlays_l6_b (s0 : ((List (Int × (Bool × (Int × (ByteArray × (ByteArray × Unit)))))) → Int → (List Int) → Option Bool)) (l7 : ((List (Int × (Bool × (Int × (ByteArray × (ByteArray × Unit)))))) → Int → (List Int) → Option Bool)) (u6_0 : (List (Int × (Bool × (Int × (ByteArray × (ByteArray × Unit))))))) (u6_1 : Int) (u6_2 : Int) (u6_3 : (List Int)) (u6_4 : (List Int)) : Option Bool :=
  if (u6_2 == (0 : Int)) = true then
  l7 u6_0 u6_1 u6_4
  else
  l7 u6_0 u6_1 u6_3
def m_ticketlinelaw16_PagePlays_l6 (N : Nat) (s0 : ((List (Int × (Bool × (Int × (ByteArray × (ByteArray × Unit)))))) → Int → (List Int) → Option Bool)) (u6_0 : (List (Int × (Bool × (Int × (ByteArray × (ByteArray × Unit))))))) (u6_1 : Int) (u6_2 : Int) (u6_3 : (List Int)) (u6_4 : (List Int)) : Option Bool := m_ticketlinelaw16_PagePlays_l6_b s0 (m_ticketlinelaw16_PagePlays_l7 N s0) u6_0 u6_1 u6_2 u6_3 u6_4
def m_ticketlinelaw16_PagePlays_l5_b (s0 : ((List (Int × (Bool × (Int × (ByteArray × (ByteArray × Unit)))))) → Int → (List Int) → Option Bool)) (l6 : ((List (Int × (Bool × (Int × (ByteArray × (ByteArray × Unit)))))) → Int → Int → (List Int) → (List Int) → Option Bool)) (u5_0 : (List (Int × (Bool × (Int × (ByteArray × (ByteArray × Unit))))))) (u5_1 : Int) (u5_2 : Int) (u5_3 : (List Int)) (u5_4 : Int) (u5_5 : Bool) (u5_6 : Int) (u5_7 : ByteArray) (u5_8 : ByteArray) (u5_9 : (List Int)) : Option Bool :=
  if (u5_4 == (0 : Int)) = true then
  Option.bind (m_ticketlinelaw16_inserts u5_3 u5_7 u5_8 u5_9 u5_2) fun r31 =>
  if (!r31) = true then
   some false
  else
   if (u5_4 == (1 : Int)) = true then
    Option.bind (m_ticketlinelaw16_puts u5_3 u5_7 u5_8 u5_9 u5_2) fun r33 =>
    if (!r33) = true then
     some false
    else
     l6 u5_0 u5_1 u5_2 u5_3 u5_9
   else
    l6 u5_0 u5_1 u5_2 u5_3 u5_9
  else
  if (u5_4 == (1 : Int)) = true then
   Option.bind (m_ticketlinelaw16_puts u5_3 u5_7 u5_8 u5_9 u5_2) fun r37 =>
   if (!r37) = true then
    some false
   else
    l6 u5_0 u5_1 u5_2 u5_3 u5_9
  else
   l6 u5_0 u5_1 u5_2 u5_3 u5_9
def m_ticketlinelaw16_PagePlays_l5 (N : Nat) (s0 : ((List (Int × (Bool × (Int × (ByteArray × (ByteArray × Unit)))))) → Int → (List Int) → Option Bool)) (u5_0 : (List (Int × (Bool × (Int × (ByteArray × (ByteArray × Unit))))))) (u5_1 : Int) (u5_2 : Int) (u5_3 : (List Int)) (u5_4 : Int) (u5_5 : Bool) (u5_6 : Int) (u5_7 : ByteArray) (u5_8 : ByteArray) (u5_9 : (List Int)) : Option Bool := m_ticketlinelaw16_PagePlays_l5_b s0 (m_ticketlinelaw16_PagePlays_l6 N s0) u5_0 u5_1 u5_2 u5_3 u5_4 u5_5 u5_6 u5_7 u5_8 u5_9
def m_ticketlinelaw16_PagePlays_l9_b (s0 : ((List (Int × (Bool × (Int × (ByteArray × (ByteArray × Unit)))))) → Int → (List Int) → Option Bool)) (l6 : ((List (Int × (Bool × (Int × (ByteArray × (ByteArray × Unit)))))) → Int → Int → (List Int) → (List Int) → Option Bool)) (u9_0 : (List (Int × (Bool × (Int × (ByteArray × (ByteArray × Unit))))))) (u9_1 : Int) (u9_2 : Int) (u9_3 : ByteArray) (u9_4 : (List Int)) (u9_5 : Int) (u9_6 : Bool) (u9_7 : Int) (u9_8 : ByteArray) (u9_9 : ByteArray) (u9_10 : (List Int)) : Option Bool :=
  Option.bind (m_ticketlinelaw16_removes u9_4 u9_8 u9_10 u9_3 u9_2) fun r43 =>
  if (!r43) = true then
  some false
  else
  l6 u9_0 u9_1 u9_2 u9_4 u9_10
def m_ticketlinelaw16_PagePlays_l9 (N : Nat) (s0 : ((List (Int × (Bool × (Int × (ByteArray × (ByteArray × Unit)))))) → Int → (List Int) → Option Bool)) (u9_0 : (List (Int × (Bool × (Int × (ByteArray × (ByteArray × Unit))))))) (u9_1 : Int) (u9_2 : Int) (u9_3 : ByteArray) (u9_4 : (List Int)) (u9_5 : Int) (u9_6 : Bool) (u9_7 : Int) (u9_8 : ByteArray) (u9_9 : ByteArray) (u9_10 : (List Int)) : Option Bool := m_ticketlinelaw16_PagePlays_l9_b s0 (m_ticketlinelaw16_PagePlays_l6 N s0) u9_0 u9_1 u9_2 u9_3 u9_4 u9_5 u9_6 u9_7 u9_8 u9_9 u9_10
def m_ticketlinelaw16_PagePlays_l8_b (s0 : ((List (Int × (Bool × (Int × (ByteArray × (ByteArray × Unit)))))) → Int → (List Int) → Option Bool)) (l9 : ((List (Int × (Bool × (Int × (ByteArray × (ByteArray × Unit)))))) → Int → Int → ByteArray → (List Int) → Int → Bool → Int → ByteArray → ByteArray → (List Int) → Option Bool)) (u8_0 : (List (Int × (Bool × (Int × (ByteArray × (ByteArray × Unit))))))) (u8_1 : Int) (u8_2 : (List Int)) (u8_3 : Int) (u8_4 : Bool) (u8_5 : Int) (u8_6 : ByteArray) (u8_7 : ByteArray) (u8_8 : (List Int)) : Option Bool :=
  Option.bind (m_ticketlineref16_Remove u8_2 u8_6) fun r42 =>
  l9 u8_0 u8_1 r42.2.2 r42.2.1 u8_2 u8_3 u8_4 u8_5 u8_6 u8_7 r42.1
def m_ticketlinelaw16_PagePlays_l8 (N : Nat) (s0 : ((List (Int × (Bool × (Int × (ByteArray × (ByteArray × Unit)))))) → Int → (List Int) → Option Bool)) (u8_0 : (List (Int × (Bool × (Int × (ByteArray × (ByteArray × Unit))))))) (u8_1 : Int) (u8_2 : (List Int)) (u8_3 : Int) (u8_4 : Bool) (u8_5 : Int) (u8_6 : ByteArray) (u8_7 : ByteArray) (u8_8 : (List Int)) : Option Bool := m_ticketlinelaw16_PagePlays_l8_b s0 (m_ticketlinelaw16_PagePlays_l9 N s0) u8_0 u8_1 u8_2 u8_3 u8_4 u8_5 u8_6 u8_7 u8_8
def m_ticketlinelaw16_PagePlays_l11_b (s0 : ((List (Int × (Bool × (Int × (ByteArray × (ByteArray × Unit)))))) → Int → (List Int) → Option Bool)) (l6 : ((List (Int × (Bool × (Int × (ByteArray × (ByteArray × Unit)))))) → Int → Int → (List Int) → (List Int) → Option Bool)) (u11_0 : (List (Int × (Bool × (Int × (ByteArray × (ByteArray × Unit))))))) (u11_1 : Int) (u11_2 : Int) (u11_3 : Int) (u11_4 : (List Int)) (u11_5 : (List Int)) (u11_6 : (List Int)) : Option Bool :=
  if (!(Ty.beq (.arr 128 (.int .u64)) u11_6 u11_5)) = true then
  some false
  else
  if (u11_3 != (0 : Int)) = true then
   some false
  else
   l6 u11_0 u11_1 u11_2 u11_4 u11_5
def m_ticketlinelaw16_PagePlays_l11 (N : Nat) (s0 : ((List (Int × (Bool × (Int × (ByteArray × (ByteArray × Unit)))))) → Int → (List Int) → Option Bool)) (u11_0 : (List (Int × (Bool × (Int × (ByteArray × (ByteArray × Unit))))))) (u11_1 : Int) (u11_2 : Int) (u11_3 : Int) (u11_4 : (List Int)) (u11_5 : (List Int)) (u11_6 : (List Int)) : Option Bool := m_ticketlinelaw16_PagePlays_l11_b s0 (m_ticketlinelaw16_PagePlays_l6 N s0) u11_0 u11_1 u11_2 u11_3 u11_4 u11_5 u11_6
def m_ticketlinelaw16_PagePlays_l10_b (s0 : ((List (Int × (Bool × (Int × (ByteArray × (ByteArray × Unit)))))) → Int → (List Int) → Option Bool)) (l11 : ((List (Int × (Bool × (Int × (ByteArray × (ByteArray × Unit)))))) → Int → Int → Int → (List Int) → (List Int) → (List Int) → Option Bool)) (u10_0 : (List (Int × (Bool × (Int × (ByteArray × (ByteArray × Unit))))))) (u10_1 : Int) (u10_2 : Int) (u10_3 : (List Int)) (u10_4 : (List Int)) : Option Bool :=
  Option.bind (m_page_Compact u10_3) fun r46 =>
  l11 u10_0 u10_1 u10_2 r46.2 u10_3 u10_4 r46.1
def m_ticketlinelaw16_PagePlays_l10 (N : Nat) (s0 : ((List (Int × (Bool × (Int × (ByteArray × (ByteArray × Unit)))))) → Int → (List Int) → Option Bool)) (u10_0 : (List (Int × (Bool × (Int × (ByteArray × (ByteArray × Unit))))))) (u10_1 : Int) (u10_2 : Int) (u10_3 : (List Int)) (u10_4 : (List Int)) : Option Bool := m_ticketlinelaw16_PagePlays_l10_b s0 (m_ticketlinelaw16_PagePlays_l11 N s0) u10_0 u10_1 u10_2 u10_3 u10_4
def m_ticketlinelaw16_PagePlays_l4_b (s0 : ((List (Int × (Bool × (Int × (ByteArray × (ByteArray × Unit)))))) → Int → (List Int) → Option Bool)) (l5 : ((List (Int × (Bool × (Int × (ByteArray × (ByteArray × Unit)))))) → Int → Int → (List Int) → Int → Bool → Int → ByteArray → ByteArray → (List Int) → Option Bool)) (l6 : ((List (Int × (Bool × (Int × (ByteArray × (ByteArray × Unit)))))) → Int → Int → (List Int) → (List Int) → Option Bool)) (l8 : ((List (Int × (Bool × (Int × (ByteArray × (ByteArray × Unit)))))) → Int → (List Int) → Int → Bool → Int → ByteArray → ByteArray → (List Int) → Option Bool)) (l10 : ((List (Int × (Bool × (Int × (ByteArray × (ByteArray × Unit)))))) → Int → Int → (List Int) → (List Int) → Option Bool)) (u4_0 : (List (Int × (Bool × (Int × (ByteArray × (ByteArray × Unit))))))) (u4_1 : Int) (u4_2 : Int) (u4_3 : Int) (u4_4 : (List Int)) (u4_5 : Int) (u4_6 : Bool) (u4_7 : Int) (u4_8 : ByteArray) (u4_9 : ByteArray) (u4_10 : (List Int)) : Option Bool :=
  if (u4_3 == (0 : Int)) = true then
  Option.bind (m_ticketlineref16_Put u4_4 (u4_8, (u4_9, ())) (u4_5 == (0 : Int))) fun r29 =>
  l5 u4_0 u4_1 r29.2 u4_4 u4_5 u4_6 u4_7 u4_8 u4_9 r29.1
  else
  if (u4_3 == (1 : Int)) = true then
   Option.bind (m_ticketlineref16_Put u4_4 (u4_8, (u4_9, ())) (u4_5 == (0 : Int))) fun r40 =>
   l5 u4_0 u4_1 r40.2 u4_4 u4_5 u4_6 u4_7 u4_8 u4_9 r40.1
  else
   if (u4_3 == (2 : Int)) = true then
    l8 u4_0 u4_1 u4_4 u4_5 u4_6 u4_7 u4_8 u4_9 u4_10
   else
    if (u4_3 == (3 : Int)) = true then
     Option.bind (m_ticketlineref16_Compact u4_4) fun r45 =>
     l10 u4_0 u4_1 u4_2 u4_4 r45
    else
     l6 u4_0 u4_1 u4_2 u4_4 u4_4
def m_ticketlinelaw16_PagePlays_l4 (N : Nat) (s0 : ((List (Int × (Bool × (Int × (ByteArray × (ByteArray × Unit)))))) → Int → (List Int) → Option Bool)) (u4_0 : (List (Int × (Bool × (Int × (ByteArray × (ByteArray × Unit))))))) (u4_1 : Int) (u4_2 : Int) (u4_3 : Int) (u4_4 : (List Int)) (u4_5 : Int) (u4_6 : Bool) (u4_7 : Int) (u4_8 : ByteArray) (u4_9 : ByteArray) (u4_10 : (List Int)) : Option Bool := m_ticketlinelaw16_PagePlays_l4_b s0 (m_ticketlinelaw16_PagePlays_l5 N s0) (m_ticketlinelaw16_PagePlays_l6 N s0) (m_ticketlinelaw16_PagePlays_l8 N s0) (m_ticketlinelaw16_PagePlays_l10 N s0) u4_0 u4_1 u4_2 u4_3 u4_4 u4_5 u4_6 u4_7 u4_8 u4_9 u4_10
def m_ticketlinelaw16_PagePlays_l3_b (s0 : ((List (Int × (Bool × (Int × (ByteArray × (ByteArray × Unit)))))) → Int → (List Int) → Option Bool)) (l4 : ((List (Int × (Bool × (Int × (ByteArray × (ByteArray × Unit)))))) → Int → Int → Int → (List Int) → Int → Bool → Int → ByteArray → ByteArray → (List Int) → Option Bool)) (u3_0 : (List (Int × (Bool × (Int × (ByteArray × (ByteArray × Unit))))))) (u3_1 : Int) (u3_2 : Int) (u3_3 : (List Int)) (u3_4 : Int) (u3_5 : Bool) (u3_6 : Int) (u3_7 : ByteArray) (u3_8 : ByteArray) (u3_9 : (List Int)) : Option Bool :=
  l4 u3_0 u3_1 u3_2 u3_4 u3_3 u3_4 u3_5 u3_6 u3_7 u3_8 u3_9
def m_ticketlinelaw16_PagePlays_l3 (N : Nat) (s0 : ((List (Int × (Bool × (Int × (ByteArray × (ByteArray × Unit)))))) → Int → (List Int) → Option Bool)) (u3_0 : (List (Int × (Bool × (Int × (ByteArray × (ByteArray × Unit))))))) (u3_1 : Int) (u3_2 : Int) (u3_3 : (List Int)) (u3_4 : Int) (u3_5 : Bool) (u3_6 : Int) (u3_7 : ByteArray) (u3_8 : ByteArray) (u3_9 : (List Int)) : Option Bool := m_ticketlinelaw16_PagePlays_l3_b s0 (m_ticketlinelaw16_PagePlays_l4 N s0) u3_0 u3_1 u3_2 u3_3 u3_4 u3_5 u3_6 u3_7 u3_8 u3_9
def m_ticketlinelaw16_PagePlays_l2_b (s0 : ((List (Int × (Bool × (Int × (ByteArray × (ByteArray × Unit)))))) → Int → (List Int) → Option Bool)) (l3 : ((List (Int × (Bool × (Int × (ByteArray × (ByteArray × Unit)))))) → Int → Int → (List Int) → Int → Bool → Int → ByteArray → ByteArray → (List Int) → Option Bool)) (u2_0 : (List (Int × (Bool × (Int × (ByteArray × (ByteArray × Unit))))))) (u2_1 : Int) (u2_2 : (List Int)) (u2_3 : Int) (u2_4 : Bool) (u2_5 : Int) (u2_6 : ByteArray) (u2_7 : ByteArray) (u2_8 : (List Int)) : Option Bool :=
  l3 u2_0 u2_1 (0 : Int) u2_2 u2_3 u2_4 u2_5 u2_6 u2_7 u2_8
def m_ticketlinelaw16_PagePlays_l2 (N : Nat) (s0 : ((List (Int × (Bool × (Int × (ByteArray × (ByteArray × Unit)))))) → Int → (List Int) → Option Bool)) (u2_0 : (List (Int × (Bool × (Int × (ByteArray × (ByteArray × Unit))))))) (u2_1 : Int) (u2_2 : (List Int)) (u2_3 : Int) (u2_4 : Bool) (u2_5 : Int) (u2_6 : ByteArray) (u2_7 : ByteArray) (u2_8 : (List Int)) : Option Bool := m_ticketlinelaw16_PagePlays_l2_b s0 (m_ticketlinelaw16_PagePlays_l3 N s0) u2_0 u2_1 u2_2 u2_3 u2_4 u2_5 u2_6 u2_7 u2_8
def m_ticketlinelaw16_PagePlays_l1_b (s0 : ((List (Int × (Bool × (Int × (ByteArray × (ByteArray × Unit)))))) → Int → (List Int) → Option Bool)) (l2 : ((List (Int × (Bool × (Int × (ByteArray × (ByteArray × Unit)))))) → Int → (List Int) → Int → Bool → Int → ByteArray → ByteArray → (List Int) → Option Bool)) (u1_0 : (List (Int × (Bool × (Int × (ByteArray × (ByteArray × Unit))))))) (u1_1 : Int) (u1_2 : (List Int)) (u1_3 : Int) (u1_4 : Bool) (u1_5 : Int) (u1_6 : ByteArray) (u1_7 : ByteArray) : Option Bool :=
  l2 u1_0 u1_1 u1_2 u1_3 u1_4 u1_5 u1_6 u1_7 (List.replicate 128 (0 : Int))
def m_ticketlinelaw16_PagePlays_l1 (N : Nat) (s0 : ((List (Int × (Bool × (Int × (ByteArray × (ByteArray × Unit)))))) → Int → (List Int) → Option Bool)) (u1_0 : (List (Int × (Bool × (Int × (ByteArray × (ByteArray × Unit))))))) (u1_1 : Int) (u1_2 : (List Int)) (u1_3 : Int) (u1_4 : Bool) (u1_5 : Int) (u1_6 : ByteArray) (u1_7 : ByteArray) : Option Bool := m_ticketlinelaw16_PagePlays_l1_b s0 (m_ticketlinelaw16_PagePlays_l2 N s0) u1_0 u1_1 u1_2 u1_3 u1_4 u1_5 u1_6 u1_7
def m_ticketlinelaw16_PagePlays_l0_b (s0 : ((List (Int × (Bool × (Int × (ByteArray × (ByteArray × Unit)))))) → Int → (List Int) → Option Bool)) (l1 : ((List (Int × (Bool × (Int × (ByteArray × (ByteArray × Unit)))))) → Int → (List Int) → Int → Bool → Int → ByteArray → ByteArray → Option Bool)) (u0_0 : (List (Int × (Bool × (Int × (ByteArray × (ByteArray × Unit))))))) (u0_1 : Int) (u0_2 : (List Int)) : Option Bool :=
  if (decide (u0_1 < (u0_0.length : Int))) = true then
  if (0 : Int) ≤ u0_1 then
   if u0_1 < (u0_0.length : Int) then
    let v12 := (rd (.pair (.int .i64) (.pair .bool (.pair (.int .u8) (.pair .str (.pair .str .nl))))) u0_0 u0_1)
    if (decide ((v12.2.2.2.1.size : Int) > (60 : Int))) = true then
     Option.bind (m_ticketlinelaw16_known) fun r15 =>
     some r15
    else
     if (decide ((v12.2.2.2.2.1.size : Int) > (60 : Int))) = true then
      Option.bind (m_ticketlinelaw16_known) fun r18 =>
      some r18
     else
      Option.bind (m_ticketlineref14_Pairs u0_2) fun r19 =>
      if v12.2.1 = true then
       if (decide ((r19.length : Int) > (0 : Int))) = true then
        let v23 := (r19.length : Int)
        if v23 ≠ 0 then
         let v24 := (Int.tmod (IntKind.i64.wrap v12.2.2.1) v23)
         if (0 : Int) ≤ v24 then
          if v24 < (r19.length : Int) then
           l1 u0_0 u0_1 u0_2 v12.1 v12.2.1 v12.2.2.1 ((rd (.pair .str (.pair .str .nl)) r19 v24).1) v12.2.2.2.2.1
          else none
         else none
        else none
       else
        l1 u0_0 u0_1 u0_2 v12.1 v12.2.1 v12.2.2.1 v12.2.2.2.1 v12.2.2.2.2.1
      else
       l1 u0_0 u0_1 u0_2 v12.1 v12.2.1 v12.2.2.1 v12.2.2.2.1 v12.2.2.2.2.1
   else none
  else none
  else
  Option.bind (m_ticketlinelaw16_known) fun r50 =>
  some r50
def m_ticketlinelaw16_PagePlays_l0 (N : Nat) : Nat → (List (Int × (Bool × (Int × (ByteArray × (ByteArray × Unit)))))) → Int → (List Int) → Option Bool
  | 0, _, _, _ => none
  | n + 1, u0_0, u0_1, u0_2 => m_ticketlinelaw16_PagePlays_l0_b (m_ticketlinelaw16_PagePlays_l0 N n) (m_ticketlinelaw16_PagePlays_l1 N (m_ticketlinelaw16_PagePlays_l0 N n)) u0_0 u0_1 u0_2
def m_ticketlinelaw16_PagePlays_a (l0 : ((List (Int × (Bool × (Int × (ByteArray × (ByteArray × Unit)))))) → Int → (List Int) → Option Bool)) (x0 : (Int × (Int × (ByteArray × (ByteArray × ((List (ByteArray × (ByteArray × Unit))) × ((List Int) × ((List (Int × (Int × Unit))) × Unit)))))))) (x1 : (List (Int × (Bool × (Int × (ByteArray × (ByteArray × Unit))))))) : Option Bool :=
  Option.bind (m_ticketlineref14_Plan_Used x0) fun r1 =>
  if (!r1.2) = true then
  Option.bind (m_ticketlinelaw16_known) fun r3 =>
  some r3
  else
  if (decide ((x1.length : Int) > (40 : Int))) = true then
   Option.bind (m_ticketlinelaw16_known) fun r6 =>
   some r6
  else
   Option.bind (m_ticketlineref15_Bad r1.1) fun r7 =>
   if (r7 != (0 : Int)) = true then
    Option.bind (m_ticketlinelaw16_known) fun r9 =>
    some r9
   else
    l0 x1 (0 : Int) r1.1
def m_ticketlinelaw16_PagePlays (x0 : (Int × (Int × (ByteArray × (ByteArray × ((List (ByteArray × (ByteArray × Unit))) × ((List Int) × ((List (Int × (Int × Unit))) × Unit)))))))) (x1 : (List (Int × (Bool × (Int × (ByteArray × (ByteArray × Unit))))))) : Option Bool := m_ticketlinelaw16_PagePlays_a (m_ticketlinelaw16_PagePlays_l0 FUEL FUEL) x0 x1
def m_ticketlinelaw16_made (x0 : Int) (x1 : ByteArray) (x2 : ByteArray) (x3 : Int) (x4 : (List (ByteArray × (ByteArray × Unit)))) (x5 : (List Int)) (x6 : Int) : Option Bool :=
  Option.bind (m_page_Of x0 x1 x2 x3 x4) fun r1 =>
  if (Ty.beq (.arr 128 (.int .u64)) r1.1 x5) = true then
  some (r1.2 == x6)
  else
  some false
def m_ticketlinelaw16_PageOf_l0_b (s0 : (Int → ByteArray → ByteArray → Int → (List (ByteArray × (ByteArray × Unit))) → Int → Option Bool)) (u0_0 : Int) (u0_1 : ByteArray) (u0_2 : ByteArray) (u0_3 : Int) (u0_4 : (List (ByteArray × (ByteArray × Unit)))) (u0_5 : Int) : Option Bool :=
  if (decide (u0_5 < (u0_4.length : Int))) = true then
  if (0 : Int) ≤ u0_5 then
   if u0_5 < (u0_4.length : Int) then
    if (decide (((rd (.pair .str (.pair .str .nl)) u0_4 u0_5).1.size : Int) > (60 : Int))) = true then
     Option.bind (m_ticketlinelaw16_known) fun r13 =>
     some r13
    else
     if (0 : Int) ≤ u0_5 then
      if u0_5 < (u0_4.length : Int) then
       if (decide (((rd (.pair .str (.pair .str .nl)) u0_4 u0_5).2.1.size : Int) > (60 : Int))) = true then
        Option.bind (m_ticketlinelaw16_known) fun r17 =>
        some r17
       else
        s0 u0_0 u0_1 u0_2 u0_3 u0_4 (IntKind.i64.wrap (u0_5 + (1 : Int)))
      else none
     else none
   else none
  else none
  else
  if fits (List.length u0_4) 32 then
   Option.bind (m_ticketlineref16_Of u0_0 u0_1 u0_2 u0_3 u0_4) fun r19 =>
   Option.bind (m_ticketlinelaw16_made u0_0 u0_1 u0_2 u0_3 u0_4 r19.1 r19.2) fun r21 =>
   if r21 = true then
    Option.bind (m_ticketlineref14_Same u0_4 u0_4) fun r22 =>
    if r22 = true then
     Option.bind (m_ticketlinelaw16_known) fun r23 =>
     some r23
    else
     some false
   else
    some false
  else none
def m_ticketlinelaw16_PageOf_l0 (N : Nat) : Nat → Int → ByteArray → ByteArray → Int → (List (ByteArray × (ByteArray × Unit))) → Int → Option Bool
  | 0, _, _, _, _, _, _ => none
  | n + 1, u0_0, u0_1, u0_2, u0_3, u0_4, u0_5 => m_ticketlinelaw16_PageOf_l0_b (m_ticketlinelaw16_PageOf_l0 N n) u0_0 u0_1 u0_2 u0_3 u0_4 u0_5
def m_ticketlinelaw16_PageOf_a (l0 : (Int → ByteArray → ByteArray → Int → (List (ByteArray × (ByteArray × Unit))) → Int → Option Bool)) (x0 : Int) (x1 : ByteArray) (x2 : ByteArray) (x3 : Int) (x4 : (List (ByteArray × (ByteArray × Unit)))) : Option Bool :=
  if (decide ((x1.size : Int) > (60 : Int))) = true then
  Option.bind (m_ticketlinelaw16_known) fun r2 =>
  some r2
  else
  if (decide ((x2.size : Int) > (60 : Int))) = true then
   Option.bind (m_ticketlinelaw16_known) fun r4 =>
   some r4
  else
   if (decide ((x4.length : Int) > (60 : Int))) = true then
    Option.bind (m_ticketlinelaw16_known) fun r7 =>
    some r7
   else
    l0 x0 x1 x2 x3 x4 (0 : Int)
def m_ticketlinelaw16_PageOf (x0 : Int) (x1 : ByteArray) (x2 : ByteArray) (x3 : Int) (x4 : (List (ByteArray × (ByteArray × Unit)))) : Option Bool := m_ticketlinelaw16_PageOf_a (m_ticketlinelaw16_PageOf_l0 FUEL FUEL) x0 x1 x2 x3 x4
def m_ticketlinelaw16_PageNumbers (x0 : Int) : Option Bool :=
  if (decide (x0 < (1 : Int))) = true then
  Option.bind (m_ticketlinelaw16_number x0 (⟨#[]⟩ : ByteArray) (2 : Int)) fun r2 =>
  if r2 = true then
   Option.bind (m_ticketlinelaw16_known) fun r3 =>
   some r3
  else
   some false
  else
  if (decide (x0 > (511 : Int))) = true then
   Option.bind (m_ticketlinelaw16_number x0 (⟨#[]⟩ : ByteArray) (2 : Int)) fun r5 =>
   if r5 = true then
    Option.bind (m_ticketlinelaw16_known) fun r6 =>
    some r6
   else
    some false
  else
   Option.bind (m_ticketlineref16_Number x0) fun r7 =>
   Option.bind (m_ticketlinelaw16_number x0 r7 (0 : Int)) fun r8 =>
   if r8 = true then
    Option.bind (m_ticketlinelaw16_known) fun r9 =>
    some r9
   else
    some false
def m_ticketlinelaw16_PageFills_l1_b (s1 : (Bool → ByteArray → Int → (List Int) → (List ByteArray) → Option Bool)) (u1_0 : Bool) (u1_1 : ByteArray) (u1_2 : Int) (u1_3 : (List Int)) (u1_4 : (List ByteArray)) : Option Bool :=
  if (decide (u1_2 < (u1_4.length : Int))) = true then
  if (0 : Int) ≤ u1_2 then
   if u1_2 < (u1_4.length : Int) then
    if u1_0 = true then
     let v45 := (IntKind.i64.wrap ((IntKind.i64.wrap ((u1_4.length : Int) - (1 : Int))) - u1_2))
     if (0 : Int) ≤ v45 then
      if v45 < (u1_4.length : Int) then
       Option.bind (m_page_Remove u1_3 (rd .str u1_4 v45)) fun r47 =>
       if (r47.2.2 != (0 : Int)) = true then
        some false
       else
        if (!strEq r47.2.1 u1_1) = true then
         some false
        else
         if ((IntKind.i64.wrap (rd (.int .u64) r47.1 (9 : Int))) != (IntKind.i64.wrap ((IntKind.i64.wrap ((u1_4.length : Int) - (1 : Int))) - u1_2))) = true then
          some false
         else
          s1 u1_0 u1_1 (IntKind.i64.wrap (u1_2 + (1 : Int))) r47.1 u1_4
      else none
     else none
    else
     Option.bind (m_page_Remove u1_3 (rd .str u1_4 u1_2)) fun r57 =>
     if (r57.2.2 != (0 : Int)) = true then
      some false
     else
      if (!strEq r57.2.1 u1_1) = true then
       some false
      else
       if ((IntKind.i64.wrap (rd (.int .u64) r57.1 (9 : Int))) != (IntKind.i64.wrap ((IntKind.i64.wrap ((u1_4.length : Int) - (1 : Int))) - u1_2))) = true then
        some false
       else
        s1 u1_0 u1_1 (IntKind.i64.wrap (u1_2 + (1 : Int))) r57.1 u1_4
   else none
  else none
  else
  Option.bind (m_page_Compact u1_3) fun r67 =>
  Option.bind (m_ticketlineref14_Empty (0 : Int) (⟨#[]⟩ : ByteArray) (⟨#[]⟩ : ByteArray)) fun r69 =>
  if (Ty.beq (.arr 128 (.int .u64)) r67.1 r69) = true then
   if (r67.2 == (0 : Int)) = true then
    Option.bind (m_ticketlinelaw16_known) fun r72 =>
    some r72
   else
    some false
  else
   some false
def m_ticketlinelaw16_PageFills_l1 (N : Nat) : Nat → Bool → ByteArray → Int → (List Int) → (List ByteArray) → Option Bool
  | 0, _, _, _, _, _ => none
  | n + 1, u1_0, u1_1, u1_2, u1_3, u1_4 => m_ticketlinelaw16_PageFills_l1_b (m_ticketlinelaw16_PageFills_l1 N n) u1_0 u1_1 u1_2 u1_3 u1_4
def m_ticketlinelaw16_PageFills_l0_b (s0 : (Int → Bool → ByteArray → Int → Int → (List Int) → (List ByteArray) → Option Bool)) (l1 : (Bool → ByteArray → Int → (List Int) → (List ByteArray) → Option Bool)) (u0_0 : Int) (u0_1 : Bool) (u0_2 : ByteArray) (u0_3 : Int) (u0_4 : Int) (u0_5 : (List Int)) (u0_6 : (List ByteArray)) : Option Bool :=
  if (decide (u0_4 ≤ u0_3)) = true then
  let v24 := ([(IntKind.u8.wrap (IntKind.i64.wrap ((97 : Int) + (IntKind.i64.wrap (Int.tdiv u0_4 (10 : Int)))))), (IntKind.u8.wrap (IntKind.i64.wrap ((48 : Int) + (Int.tmod u0_4 (10 : Int)))))] : List Int)
  let v25 := (IntKind.u8.wrap (u0_0 - (2 : Int)))
  if (0 : Int) ≤ v25 then
   if v25 ≤ v25 then
    if fits v25.toNat 1 then
     let v26 := (List.replicate v25.toNat (0 : Int))
     if (strOf v24).size + (strOf v26).size < 9223372036854775808 then
      let v27 := ((strOf v24) ++ (strOf v26))
      Option.bind (m_page_Insert u0_5 v27 u0_2) fun r28 =>
      if (u0_4 == u0_3) = true then
       if (!(Ty.beq (.arr 128 (.int .u64)) r28.1 (List.replicate 128 (0 : Int)))) = true then
        some false
       else
        if (r28.2 != (7 : Int)) = true then
         some false
        else
         s0 u0_0 u0_1 u0_2 u0_3 (IntKind.i64.wrap (u0_4 + (1 : Int))) u0_5 u0_6
      else
       if (r28.2 != (0 : Int)) = true then
        some false
       else
        if ((IntKind.i64.wrap (rd (.int .u64) r28.1 (9 : Int))) != (IntKind.i64.wrap (u0_4 + (1 : Int)))) = true then
         some false
        else
         let v38 := ([v27] : List ByteArray)
         if fits (List.length u0_6 + List.length v38) 16 then
          s0 u0_0 u0_1 u0_2 u0_3 (IntKind.i64.wrap (u0_4 + (1 : Int))) r28.1 (u0_6 ++ v38)
         else none
     else none
    else none
   else none
  else none
  else
  l1 u0_1 u0_2 (0 : Int) u0_5 u0_6
def m_ticketlinelaw16_PageFills_l0 (N : Nat) : Nat → Int → Bool → ByteArray → Int → Int → (List Int) → (List ByteArray) → Option Bool
  | 0, _, _, _, _, _, _, _ => none
  | n + 1, u0_0, u0_1, u0_2, u0_3, u0_4, u0_5, u0_6 => m_ticketlinelaw16_PageFills_l0_b (m_ticketlinelaw16_PageFills_l0 N n) (m_ticketlinelaw16_PageFills_l1 N N) u0_0 u0_1 u0_2 u0_3 u0_4 u0_5 u0_6
def m_ticketlinelaw16_PageFills_a (l0 : (Int → Bool → ByteArray → Int → Int → (List Int) → (List ByteArray) → Option Bool)) (x0 : Int) (x1 : Int) (x2 : Bool) : Option Bool :=
  if (decide (x0 > (40 : Int))) = true then
  Option.bind (m_ticketlinelaw16_known) fun r2 =>
  some r2
  else
  if (decide (x1 < (2 : Int))) = true then
   Option.bind (m_ticketlinelaw16_known) fun r4 =>
   some r4
  else
   if (decide (x1 > (24 : Int))) = true then
    Option.bind (m_ticketlinelaw16_known) fun r6 =>
    some r6
   else
    Option.bind (m_ticketlineref14_Empty (0 : Int) (⟨#[]⟩ : ByteArray) (⟨#[]⟩ : ByteArray)) fun r7 =>
    if (0 : Int) ≤ x0 then
     if x0 ≤ x0 then
      if fits x0.toNat 1 then
       Option.bind (m_ticketlineref14_Words (IntKind.i64.wrap x1)) fun r11 =>
       Option.bind (m_ticketlineref14_Words (IntKind.i64.wrap x0)) fun r14 =>
       let v15 := (IntKind.i64.wrap ((IntKind.i64.wrap ((1 : Int) + r11)) + r14))
       if v15 ≠ 0 then
        l0 x1 x2 (strOf (List.replicate x0.toNat (0 : Int))) (IntKind.i64.wrap (Int.tdiv (108 : Int) v15)) (0 : Int) r7 ([] : List ByteArray)
       else none
      else none
     else none
    else none
def m_ticketlinelaw16_PageFills (x0 : Int) (x1 : Int) (x2 : Bool) : Option Bool := m_ticketlinelaw16_PageFills_a (m_ticketlinelaw16_PageFills_l0 FUEL FUEL) x0 x1 x2
def m_ticketlinelaw16_PageHolds_l12_b (s0 : ((List (Int × (Bool × (Int × (ByteArray × (ByteArray × Unit)))))) → Int → (List Int) → (List (ByteArray × (ByteArray × Unit))) → Option Bool)) (u12_0 : (List (Int × (Bool × (Int × (ByteArray × (ByteArray × Unit))))))) (u12_1 : Int) (u12_2 : (List Int)) (u12_3 : (List (ByteArray × (ByteArray × Unit)))) : Option Bool :=
  s0 u12_0 (IntKind.i64.wrap (u12_1 + (1 : Int))) u12_2 u12_3
def m_ticketlinelaw16_PageHolds_l12 (N : Nat) (s0 : ((List (Int × (Bool × (Int × (ByteArray × (ByteArray × Unit)))))) → Int → (List Int) → (List (ByteArray × (ByteArray × Unit))) → Option Bool)) (u12_0 : (List (Int × (Bool × (Int × (ByteArray × (ByteArray × Unit))))))) (u12_1 : Int) (u12_2 : (List Int)) (u12_3 : (List (ByteArray × (ByteArray × Unit)))) : Option Bool := m_ticketlinelaw16_PageHolds_l12_b s0 u12_0 u12_1 u12_2 u12_3
def m_ticketlinelaw16_PageHolds_l18_b (s0 : ((List (Int × (Bool × (Int × (ByteArray × (ByteArray × Unit)))))) → Int → (List Int) → (List (ByteArray × (ByteArray × Unit))) → Option Bool)) (s17 : ((List (Int × (Bool × (Int × (ByteArray × (ByteArray × Unit)))))) → Int → Int → (List Int) → (List Int) → (List (ByteArray × (ByteArray × Unit))) → Option Bool)) (u18_0 : (List (Int × (Bool × (Int × (ByteArray × (ByteArray × Unit))))))) (u18_1 : Int) (u18_2 : Int) (u18_3 : (List Int)) (u18_4 : (List (ByteArray × (ByteArray × Unit)))) (u18_5 : (List Int)) : Option Bool :=
  s17 u18_0 u18_1 (IntKind.i64.wrap (u18_2 + (1 : Int))) u18_3 u18_5 u18_4
def m_ticketlinelaw16_PageHolds_l18 (N : Nat) (s0 : ((List (Int × (Bool × (Int × (ByteArray × (ByteArray × Unit)))))) → Int → (List Int) → (List (ByteArray × (ByteArray × Unit))) → Option Bool)) (s17 : ((List (Int × (Bool × (Int × (ByteArray × (ByteArray × Unit)))))) → Int → Int → (List Int) → (List Int) → (List (ByteArray × (ByteArray × Unit))) → Option Bool)) (u18_0 : (List (Int × (Bool × (Int × (ByteArray × (ByteArray × Unit))))))) (u18_1 : Int) (u18_2 : Int) (u18_3 : (List Int)) (u18_4 : (List (ByteArray × (ByteArray × Unit)))) (u18_5 : (List Int)) : Option Bool := m_ticketlinelaw16_PageHolds_l18_b s0 s17 u18_0 u18_1 u18_2 u18_3 u18_4 u18_5
def m_ticketlinelaw16_PageHolds_l17_b (s0 : ((List (Int × (Bool × (Int × (ByteArray × (ByteArray × Unit)))))) → Int → (List Int) → (List (ByteArray × (ByteArray × Unit))) → Option Bool)) (s17 : ((List (Int × (Bool × (Int × (ByteArray × (ByteArray × Unit)))))) → Int → Int → (List Int) → (List Int) → (List (ByteArray × (ByteArray × Unit))) → Option Bool)) (l12 : ((List (Int × (Bool × (Int × (ByteArray × (ByteArray × Unit)))))) → Int → (List Int) → (List (ByteArray × (ByteArray × Unit))) → Option Bool)) (l18 : ((List (Int × (Bool × (Int × (ByteArray × (ByteArray × Unit)))))) → Int → Int → (List Int) → (List (ByteArray × (ByteArray × Unit))) → (List Int) → Option Bool)) (u17_0 : (List (Int × (Bool × (Int × (ByteArray × (ByteArray × Unit))))))) (u17_1 : Int) (u17_2 : Int) (u17_3 : (List Int)) (u17_4 : (List Int)) (u17_5 : (List (ByteArray × (ByteArray × Unit)))) : Option Bool :=
  if (decide (u17_2 < (20 : Int))) = true then
  if (u17_2 != (9 : Int)) = true then
   if (u17_2 != (11 : Int)) = true then
    if (0 : Int) ≤ u17_2 then
     if u17_2 < (128 : Int) then
      if (0 : Int) ≤ u17_2 then
       if u17_2 < (128 : Int) then
        if ((rd (.int .u64) u17_4 u17_2) != (rd (.int .u64) u17_3 u17_2)) = true then
         some false
        else
         l18 u17_0 u17_1 u17_2 u17_3 u17_5 u17_4
       else none
      else none
     else none
    else none
   else
    l18 u17_0 u17_1 u17_2 u17_3 u17_5 u17_4
  else
   l18 u17_0 u17_1 u17_2 u17_3 u17_5 u17_4
  else
  l12 u17_0 u17_1 u17_4 u17_5
def m_ticketlinelaw16_PageHolds_l17 (N : Nat) (s0 : ((List (Int × (Bool × (Int × (ByteArray × (ByteArray × Unit)))))) → Int → (List Int) → (List (ByteArray × (ByteArray × Unit))) → Option Bool)) : Nat → (List (Int × (Bool × (Int × (ByteArray × (ByteArray × Unit)))))) → Int → Int → (List Int) → (List Int) → (List (ByteArray × (ByteArray × Unit))) → Option Bool
  | 0, _, _, _, _, _, _ => none
  | n + 1, u17_0, u17_1, u17_2, u17_3, u17_4, u17_5 => m_ticketlinelaw16_PageHolds_l17_b s0 (m_ticketlinelaw16_PageHolds_l17 N s0 n) (m_ticketlinelaw16_PageHolds_l12 N s0) (m_ticketlinelaw16_PageHolds_l18 N s0 (m_ticketlinelaw16_PageHolds_l17 N s0 n)) u17_0 u17_1 u17_2 u17_3 u17_4 u17_5
def m_ticketlinelaw16_PageHolds_l16_b (s0 : ((List (Int × (Bool × (Int × (ByteArray × (ByteArray × Unit)))))) → Int → (List Int) → (List (ByteArray × (ByteArray × Unit))) → Option Bool)) (l17 : ((List (Int × (Bool × (Int × (ByteArray × (ByteArray × Unit)))))) → Int → Int → (List Int) → (List Int) → (List (ByteArray × (ByteArray × Unit))) → Option Bool)) (u16_0 : (List (Int × (Bool × (Int × (ByteArray × (ByteArray × Unit))))))) (u16_1 : Int) (u16_2 : Int) (u16_3 : (List Int)) (u16_4 : (List (ByteArray × (ByteArray × Unit)))) (u16_5 : (List Int)) : Option Bool :=
  l17 u16_0 u16_1 u16_2 u16_3 u16_5 u16_4
def m_ticketlinelaw16_PageHolds_l16 (N : Nat) (s0 : ((List (Int × (Bool × (Int × (ByteArray × (ByteArray × Unit)))))) → Int → (List Int) → (List (ByteArray × (ByteArray × Unit))) → Option Bool)) (u16_0 : (List (Int × (Bool × (Int × (ByteArray × (ByteArray × Unit))))))) (u16_1 : Int) (u16_2 : Int) (u16_3 : (List Int)) (u16_4 : (List (ByteArray × (ByteArray × Unit)))) (u16_5 : (List Int)) : Option Bool := m_ticketlinelaw16_PageHolds_l16_b s0 (m_ticketlinelaw16_PageHolds_l17 N s0 N) u16_0 u16_1 u16_2 u16_3 u16_4 u16_5
def m_ticketlinelaw16_PageHolds_l15_b (s0 : ((List (Int × (Bool × (Int × (ByteArray × (ByteArray × Unit)))))) → Int → (List Int) → (List (ByteArray × (ByteArray × Unit))) → Option Bool)) (l16 : ((List (Int × (Bool × (Int × (ByteArray × (ByteArray × Unit)))))) → Int → Int → (List Int) → (List (ByteArray × (ByteArray × Unit))) → (List Int) → Option Bool)) (u15_0 : (List (Int × (Bool × (Int × (ByteArray × (ByteArray × Unit))))))) (u15_1 : Int) (u15_2 : (List Int)) (u15_3 : (List (ByteArray × (ByteArray × Unit)))) (u15_4 : (List Int)) : Option Bool :=
  l16 u15_0 u15_1 (0 : Int) u15_2 u15_3 u15_4
def m_ticketlinelaw16_PageHolds_l15 (N : Nat) (s0 : ((List (Int × (Bool × (Int × (ByteArray × (ByteArray × Unit)))))) → Int → (List Int) → (List (ByteArray × (ByteArray × Unit))) → Option Bool)) (u15_0 : (List (Int × (Bool × (Int × (ByteArray × (ByteArray × Unit))))))) (u15_1 : Int) (u15_2 : (List Int)) (u15_3 : (List (ByteArray × (ByteArray × Unit)))) (u15_4 : (List Int)) : Option Bool := m_ticketlinelaw16_PageHolds_l15_b s0 (m_ticketlinelaw16_PageHolds_l16 N s0) u15_0 u15_1 u15_2 u15_3 u15_4
def m_ticketlinelaw16_PageHolds_l14_b (s0 : ((List (Int × (Bool × (Int × (ByteArray × (ByteArray × Unit)))))) → Int → (List Int) → (List (ByteArray × (ByteArray × Unit))) → Option Bool)) (l15 : ((List (Int × (Bool × (Int × (ByteArray × (ByteArray × Unit)))))) → Int → (List Int) → (List (ByteArray × (ByteArray × Unit))) → (List Int) → Option Bool)) (u14_0 : (List (Int × (Bool × (Int × (ByteArray × (ByteArray × Unit))))))) (u14_1 : Int) (u14_2 : (List Int)) (u14_3 : (List (ByteArray × (ByteArray × Unit)))) (u14_4 : (List Int)) : Option Bool :=
  Option.bind (m_ticketlineref14_Valid u14_4) fun r47 =>
  if (!r47) = true then
  some false
  else
  Option.bind (m_ticketlineref14_Pairs u14_4) fun r48 =>
  Option.bind (m_ticketlineref14_Same r48 u14_3) fun r49 =>
  if (!r49) = true then
   some false
  else
   if ((rd (.int .u64) u14_4 (10 : Int)) != (rd (.int .u64) u14_2 (10 : Int))) = true then
    some false
   else
    l15 u14_0 u14_1 u14_2 u14_3 u14_4
def m_ticketlinelaw16_PageHolds_l14 (N : Nat) (s0 : ((List (Int × (Bool × (Int × (ByteArray × (ByteArray × Unit)))))) → Int → (List Int) → (List (ByteArray × (ByteArray × Unit))) → Option Bool)) (u14_0 : (List (Int × (Bool × (Int × (ByteArray × (ByteArray × Unit))))))) (u14_1 : Int) (u14_2 : (List Int)) (u14_3 : (List (ByteArray × (ByteArray × Unit)))) (u14_4 : (List Int)) : Option Bool := m_ticketlinelaw16_PageHolds_l14_b s0 (m_ticketlinelaw16_PageHolds_l15 N s0) u14_0 u14_1 u14_2 u14_3 u14_4
def m_ticketlinelaw16_PageHolds_l13_b (s0 : ((List (Int × (Bool × (Int × (ByteArray × (ByteArray × Unit)))))) → Int → (List Int) → (List (ByteArray × (ByteArray × Unit))) → Option Bool)) (l14 : ((List (Int × (Bool × (Int × (ByteArray × (ByteArray × Unit)))))) → Int → (List Int) → (List (ByteArray × (ByteArray × Unit))) → (List Int) → Option Bool)) (u13_0 : (List (Int × (Bool × (Int × (ByteArray × (ByteArray × Unit))))))) (u13_1 : Int) (u13_2 : (List Int)) (u13_3 : (List Int)) (u13_4 : (List (ByteArray × (ByteArray × Unit)))) : Option Bool :=
  l14 u13_0 u13_1 u13_2 u13_4 u13_3
def m_ticketlinelaw16_PageHolds_l13 (N : Nat) (s0 : ((List (Int × (Bool × (Int × (ByteArray × (ByteArray × Unit)))))) → Int → (List Int) → (List (ByteArray × (ByteArray × Unit))) → Option Bool)) (u13_0 : (List (Int × (Bool × (Int × (ByteArray × (ByteArray × Unit))))))) (u13_1 : Int) (u13_2 : (List Int)) (u13_3 : (List Int)) (u13_4 : (List (ByteArray × (ByteArray × Unit)))) : Option Bool := m_ticketlinelaw16_PageHolds_l13_b s0 (m_ticketlinelaw16_PageHolds_l14 N s0) u13_0 u13_1 u13_2 u13_3 u13_4
def m_ticketlinelaw16_PageHolds_l11_b (s0 : ((List (Int × (Bool × (Int × (ByteArray × (ByteArray × Unit)))))) → Int → (List Int) → (List (ByteArray × (ByteArray × Unit))) → Option Bool)) (l12 : ((List (Int × (Bool × (Int × (ByteArray × (ByteArray × Unit)))))) → Int → (List Int) → (List (ByteArray × (ByteArray × Unit))) → Option Bool)) (l13 : ((List (Int × (Bool × (Int × (ByteArray × (ByteArray × Unit)))))) → Int → (List Int) → (List Int) → (List (ByteArray × (ByteArray × Unit))) → Option Bool)) (u11_0 : (List (Int × (Bool × (Int × (ByteArray × (ByteArray × Unit))))))) (u11_1 : Int) (u11_2 : Int) (u11_3 : Int) (u11_4 : (List Int)) (u11_5 : (List (ByteArray × (ByteArray × Unit)))) (u11_6 : (List (ByteArray × (ByteArray × Unit)))) (u11_7 : (List Int)) : Option Bool :=
  if (u11_2 != u11_3) = true then
  some false
  else
  if (u11_2 != (0 : Int)) = true then
   l12 u11_0 u11_1 u11_4 u11_5
  else
   l13 u11_0 u11_1 u11_4 u11_7 u11_6
def m_ticketlinelaw16_PageHolds_l11 (N : Nat) (s0 : ((List (Int × (Bool × (Int × (ByteArray × (ByteArray × Unit)))))) → Int → (List Int) → (List (ByteArray × (ByteArray × Unit))) → Option Bool)) (u11_0 : (List (Int × (Bool × (Int × (ByteArray × (ByteArray × Unit))))))) (u11_1 : Int) (u11_2 : Int) (u11_3 : Int) (u11_4 : (List Int)) (u11_5 : (List (ByteArray × (ByteArray × Unit)))) (u11_6 : (List (ByteArray × (ByteArray × Unit)))) (u11_7 : (List Int)) : Option Bool := m_ticketlinelaw16_PageHolds_l11_b s0 (m_ticketlinelaw16_PageHolds_l12 N s0) (m_ticketlinelaw16_PageHolds_l13 N s0) u11_0 u11_1 u11_2 u11_3 u11_4 u11_5 u11_6 u11_7
def m_ticketlinelaw16_PageHolds_l10_b (s0 : ((List (Int × (Bool × (Int × (ByteArray × (ByteArray × Unit)))))) → Int → (List Int) → (List (ByteArray × (ByteArray × Unit))) → Option Bool)) (l11 : ((List (Int × (Bool × (Int × (ByteArray × (ByteArray × Unit)))))) → Int → Int → Int → (List Int) → (List (ByteArray × (ByteArray × Unit))) → (List (ByteArray × (ByteArray × Unit))) → (List Int) → Option Bool)) (u10_0 : (List (Int × (Bool × (Int × (ByteArray × (ByteArray × Unit))))))) (u10_1 : Int) (u10_2 : Bool) (u10_3 : Int) (u10_4 : Int) (u10_5 : (List Int)) (u10_6 : (List (ByteArray × (ByteArray × Unit)))) (u10_7 : Int) (u10_8 : Bool) (u10_9 : Int) (u10_10 : ByteArray) (u10_11 : ByteArray) (u10_12 : (List (ByteArray × (ByteArray × Unit)))) (u10_13 : (List Int)) : Option Bool :=
  if (u10_7 == (0 : Int)) = true then
  if u10_2 = true then
   l11 u10_0 u10_1 u10_3 (11 : Int) u10_5 u10_6 u10_12 u10_13
  else
   Option.bind (m_ticketlineref14_Sum u10_12) fun r58 =>
   if (decide (r58 > (108 : Int))) = true then
    l11 u10_0 u10_1 u10_3 (7 : Int) u10_5 u10_6 u10_12 u10_13
   else
    l11 u10_0 u10_1 u10_3 u10_4 u10_5 u10_6 u10_12 u10_13
  else
  Option.bind (m_ticketlineref14_Sum u10_12) fun r60 =>
  if (decide (r60 > (108 : Int))) = true then
   l11 u10_0 u10_1 u10_3 (7 : Int) u10_5 u10_6 u10_12 u10_13
  else
   l11 u10_0 u10_1 u10_3 u10_4 u10_5 u10_6 u10_12 u10_13
def m_ticketlinelaw16_PageHolds_l10 (N : Nat) (s0 : ((List (Int × (Bool × (Int × (ByteArray × (ByteArray × Unit)))))) → Int → (List Int) → (List (ByteArray × (ByteArray × Unit))) → Option Bool)) (u10_0 : (List (Int × (Bool × (Int × (ByteArray × (ByteArray × Unit))))))) (u10_1 : Int) (u10_2 : Bool) (u10_3 : Int) (u10_4 : Int) (u10_5 : (List Int)) (u10_6 : (List (ByteArray × (ByteArray × Unit)))) (u10_7 : Int) (u10_8 : Bool) (u10_9 : Int) (u10_10 : ByteArray) (u10_11 : ByteArray) (u10_12 : (List (ByteArray × (ByteArray × Unit)))) (u10_13 : (List Int)) : Option Bool := m_ticketlinelaw16_PageHolds_l10_b s0 (m_ticketlinelaw16_PageHolds_l11 N s0) u10_0 u10_1 u10_2 u10_3 u10_4 u10_5 u10_6 u10_7 u10_8 u10_9 u10_10 u10_11 u10_12 u10_13
def m_ticketlinelaw16_PageHolds_l9_b (s0 : ((List (Int × (Bool × (Int × (ByteArray × (ByteArray × Unit)))))) → Int → (List Int) → (List (ByteArray × (ByteArray × Unit))) → Option Bool)) (l10 : ((List (Int × (Bool × (Int × (ByteArray × (ByteArray × Unit)))))) → Int → Bool → Int → Int → (List Int) → (List (ByteArray × (ByteArray × Unit))) → Int → Bool → Int → ByteArray → ByteArray → (List (ByteArray × (ByteArray × Unit))) → (List Int) → Option Bool)) (u9_0 : (List (Int × (Bool × (Int × (ByteArray × (ByteArray × Unit))))))) (u9_1 : Int) (u9_2 : Bool) (u9_3 : Int) (u9_4 : (List Int)) (u9_5 : (List (ByteArray × (ByteArray × Unit)))) (u9_6 : Int) (u9_7 : Bool) (u9_8 : Int) (u9_9 : ByteArray) (u9_10 : ByteArray) (u9_11 : (List (ByteArray × (ByteArray × Unit)))) (u9_12 : (List Int)) : Option Bool :=
  l10 u9_0 u9_1 u9_2 u9_3 (0 : Int) u9_4 u9_5 u9_6 u9_7 u9_8 u9_9 u9_10 u9_11 u9_12
def m_ticketlinelaw16_PageHolds_l9 (N : Nat) (s0 : ((List (Int × (Bool × (Int × (ByteArray × (ByteArray × Unit)))))) → Int → (List Int) → (List (ByteArray × (ByteArray × Unit))) → Option Bool)) (u9_0 : (List (Int × (Bool × (Int × (ByteArray × (ByteArray × Unit))))))) (u9_1 : Int) (u9_2 : Bool) (u9_3 : Int) (u9_4 : (List Int)) (u9_5 : (List (ByteArray × (ByteArray × Unit)))) (u9_6 : Int) (u9_7 : Bool) (u9_8 : Int) (u9_9 : ByteArray) (u9_10 : ByteArray) (u9_11 : (List (ByteArray × (ByteArray × Unit)))) (u9_12 : (List Int)) : Option Bool := m_ticketlinelaw16_PageHolds_l9_b s0 (m_ticketlinelaw16_PageHolds_l10 N s0) u9_0 u9_1 u9_2 u9_3 u9_4 u9_5 u9_6 u9_7 u9_8 u9_9 u9_10 u9_11 u9_12
def m_ticketlinelaw16_PageHolds_l8_b (s0 : ((List (Int × (Bool × (Int × (ByteArray × (ByteArray × Unit)))))) → Int → (List Int) → (List (ByteArray × (ByteArray × Unit))) → Option Bool)) (l9 : ((List (Int × (Bool × (Int × (ByteArray × (ByteArray × Unit)))))) → Int → Bool → Int → (List Int) → (List (ByteArray × (ByteArray × Unit))) → Int → Bool → Int → ByteArray → ByteArray → (List (ByteArray × (ByteArray × Unit))) → (List Int) → Option Bool)) (u8_0 : (List (Int × (Bool × (Int × (ByteArray × (ByteArray × Unit))))))) (u8_1 : Int) (u8_2 : Bool) (u8_3 : (List Int)) (u8_4 : (List (ByteArray × (ByteArray × Unit)))) (u8_5 : Int) (u8_6 : Bool) (u8_7 : Int) (u8_8 : ByteArray) (u8_9 : ByteArray) (u8_10 : (List Int)) (u8_11 : (List (ByteArray × (ByteArray × Unit)))) : Option Bool :=
  if (u8_5 == (0 : Int)) = true then
  Option.bind (m_page_Insert u8_3 u8_8 u8_9) fun r42 =>
  l9 u8_0 u8_1 u8_2 r42.2 u8_3 u8_4 u8_5 u8_6 u8_7 u8_8 u8_9 u8_11 r42.1
  else
  Option.bind (m_page_Put u8_3 u8_8 u8_9) fun r62 =>
  l9 u8_0 u8_1 u8_2 r62.2 u8_3 u8_4 u8_5 u8_6 u8_7 u8_8 u8_9 u8_11 r62.1
def m_ticketlinelaw16_PageHolds_l8 (N : Nat) (s0 : ((List (Int × (Bool × (Int × (ByteArray × (ByteArray × Unit)))))) → Int → (List Int) → (List (ByteArray × (ByteArray × Unit))) → Option Bool)) (u8_0 : (List (Int × (Bool × (Int × (ByteArray × (ByteArray × Unit))))))) (u8_1 : Int) (u8_2 : Bool) (u8_3 : (List Int)) (u8_4 : (List (ByteArray × (ByteArray × Unit)))) (u8_5 : Int) (u8_6 : Bool) (u8_7 : Int) (u8_8 : ByteArray) (u8_9 : ByteArray) (u8_10 : (List Int)) (u8_11 : (List (ByteArray × (ByteArray × Unit)))) : Option Bool := m_ticketlinelaw16_PageHolds_l8_b s0 (m_ticketlinelaw16_PageHolds_l9 N s0) u8_0 u8_1 u8_2 u8_3 u8_4 u8_5 u8_6 u8_7 u8_8 u8_9 u8_10 u8_11
def m_ticketlinelaw16_PageHolds_l7_b (s0 : ((List (Int × (Bool × (Int × (ByteArray × (ByteArray × Unit)))))) → Int → (List Int) → (List (ByteArray × (ByteArray × Unit))) → Option Bool)) (l8 : ((List (Int × (Bool × (Int × (ByteArray × (ByteArray × Unit)))))) → Int → Bool → (List Int) → (List (ByteArray × (ByteArray × Unit))) → Int → Bool → Int → ByteArray → ByteArray → (List Int) → (List (ByteArray × (ByteArray × Unit))) → Option Bool)) (u7_0 : (List (Int × (Bool × (Int × (ByteArray × (ByteArray × Unit))))))) (u7_1 : Int) (u7_2 : Int) (u7_3 : Bool) (u7_4 : (List Int)) (u7_5 : (List (ByteArray × (ByteArray × Unit)))) (u7_6 : Int) (u7_7 : Bool) (u7_8 : Int) (u7_9 : ByteArray) (u7_10 : ByteArray) (u7_11 : (List (ByteArray × (ByteArray × Unit)))) (u7_12 : (List Int)) : Option Bool :=
  if u7_3 = true then
  let v38 := (IntKind.i64.wrap (u7_2 + (1 : Int)))
  if (0 : Int) ≤ (u7_5.length : Int) then
   if (u7_5.length : Int) ≤ (u7_5.length : Int) then
    if (0 : Int) ≤ v38 then
     if v38 ≤ (u7_5.length : Int) then
      let v39 := ((u7_5.length : Int) - v38)
      if fits (List.length u7_11 + List.length (win u7_5 v38 v39)) 32 then
       l8 u7_0 u7_1 u7_3 u7_4 u7_5 u7_6 u7_7 u7_8 u7_9 u7_10 u7_12 (u7_11 ++ (win u7_5 v38 v39))
      else none
     else none
    else none
   else none
  else none
  else
  if (0 : Int) ≤ (u7_5.length : Int) then
   if (u7_5.length : Int) ≤ (u7_5.length : Int) then
    if (0 : Int) ≤ u7_2 then
     if u7_2 ≤ (u7_5.length : Int) then
      let v63 := ((u7_5.length : Int) - u7_2)
      if fits (List.length u7_11 + List.length (win u7_5 u7_2 v63)) 32 then
       l8 u7_0 u7_1 u7_3 u7_4 u7_5 u7_6 u7_7 u7_8 u7_9 u7_10 u7_12 (u7_11 ++ (win u7_5 u7_2 v63))
      else none
     else none
    else none
   else none
  else none
def m_ticketlinelaw16_PageHolds_l7 (N : Nat) (s0 : ((List (Int × (Bool × (Int × (ByteArray × (ByteArray × Unit)))))) → Int → (List Int) → (List (ByteArray × (ByteArray × Unit))) → Option Bool)) (u7_0 : (List (Int × (Bool × (Int × (ByteArray × (ByteArray × Unit))))))) (u7_1 : Int) (u7_2 : Int) (u7_3 : Bool) (u7_4 : (List Int)) (u7_5 : (List (ByteArray × (ByteArray × Unit)))) (u7_6 : Int) (u7_7 : Bool) (u7_8 : Int) (u7_9 : ByteArray) (u7_10 : ByteArray) (u7_11 : (List (ByteArray × (ByteArray × Unit)))) (u7_12 : (List Int)) : Option Bool := m_ticketlinelaw16_PageHolds_l7_b s0 (m_ticketlinelaw16_PageHolds_l8 N s0) u7_0 u7_1 u7_2 u7_3 u7_4 u7_5 u7_6 u7_7 u7_8 u7_9 u7_10 u7_11 u7_12
def m_ticketlinelaw16_PageHolds_l21_b (s0 : ((List (Int × (Bool × (Int × (ByteArray × (ByteArray × Unit)))))) → Int → (List Int) → (List (ByteArray × (ByteArray × Unit))) → Option Bool)) (l12 : ((List (Int × (Bool × (Int × (ByteArray × (ByteArray × Unit)))))) → Int → (List Int) → (List (ByteArray × (ByteArray × Unit))) → Option Bool)) (l13 : ((List (Int × (Bool × (Int × (ByteArray × (ByteArray × Unit)))))) → Int → (List Int) → (List Int) → (List (ByteArray × (ByteArray × Unit))) → Option Bool)) (u21_0 : (List (Int × (Bool × (Int × (ByteArray × (ByteArray × Unit))))))) (u21_1 : Int) (u21_2 : Int) (u21_3 : Bool) (u21_4 : Int) (u21_5 : (List Int)) (u21_6 : (List (ByteArray × (ByteArray × Unit)))) (u21_7 : (List Int)) : Option Bool :=
  if u21_3 = true then
  if (0 : Int) ≤ u21_2 then
   if u21_2 ≤ (u21_6.length : Int) then
    if (0 : Int) ≤ u21_2 then
     let v76 := (u21_2 - (0 : Int))
     if fits (List.length (win u21_6 (0 : Int) v76)) 32 then
      let v77 := (win u21_6 (0 : Int) v76)
      let v78 := (IntKind.i64.wrap (u21_2 + (1 : Int)))
      if (0 : Int) ≤ (u21_6.length : Int) then
       if (u21_6.length : Int) ≤ (u21_6.length : Int) then
        if (0 : Int) ≤ v78 then
         if v78 ≤ (u21_6.length : Int) then
          let v79 := ((u21_6.length : Int) - v78)
          if fits (List.length v77 + List.length (win u21_6 v78 v79)) 32 then
           if (u21_4 != (0 : Int)) = true then
            l12 u21_0 u21_1 u21_5 u21_6
           else
            l13 u21_0 u21_1 u21_5 u21_7 (v77 ++ (win u21_6 v78 v79))
          else none
         else none
        else none
       else none
      else none
     else none
    else none
   else none
  else none
  else
  if (u21_4 != (0 : Int)) = true then
   l12 u21_0 u21_1 u21_5 u21_6
  else
   l13 u21_0 u21_1 u21_5 u21_7 ([] : List (ByteArray × (ByteArray × Unit)))
def m_ticketlinelaw16_PageHolds_l21 (N : Nat) (s0 : ((List (Int × (Bool × (Int × (ByteArray × (ByteArray × Unit)))))) → Int → (List Int) → (List (ByteArray × (ByteArray × Unit))) → Option Bool)) (u21_0 : (List (Int × (Bool × (Int × (ByteArray × (ByteArray × Unit))))))) (u21_1 : Int) (u21_2 : Int) (u21_3 : Bool) (u21_4 : Int) (u21_5 : (List Int)) (u21_6 : (List (ByteArray × (ByteArray × Unit)))) (u21_7 : (List Int)) : Option Bool := m_ticketlinelaw16_PageHolds_l21_b s0 (m_ticketlinelaw16_PageHolds_l12 N s0) (m_ticketlinelaw16_PageHolds_l13 N s0) u21_0 u21_1 u21_2 u21_3 u21_4 u21_5 u21_6 u21_7
def m_ticketlinelaw16_PageHolds_l20_b (s0 : ((List (Int × (Bool × (Int × (ByteArray × (ByteArray × Unit)))))) → Int → (List Int) → (List (ByteArray × (ByteArray × Unit))) → Option Bool)) (l21 : ((List (Int × (Bool × (Int × (ByteArray × (ByteArray × Unit)))))) → Int → Int → Bool → Int → (List Int) → (List (ByteArray × (ByteArray × Unit))) → (List Int) → Option Bool)) (u20_0 : (List (Int × (Bool × (Int × (ByteArray × (ByteArray × Unit))))))) (u20_1 : Int) (u20_2 : Int) (u20_3 : Bool) (u20_4 : Int) (u20_5 : ByteArray) (u20_6 : (List Int)) (u20_7 : (List (ByteArray × (ByteArray × Unit)))) (u20_8 : (List Int)) : Option Bool :=
  if (!(u20_3 == (u20_4 == (0 : Int)))) = true then
  some false
  else
  if (!u20_3) = true then
   if (u20_4 != (9 : Int)) = true then
    some false
   else
    if u20_3 = true then
     if (0 : Int) ≤ u20_2 then
      if u20_2 < (u20_7.length : Int) then
       if (!strEq u20_5 ((rd (.pair .str (.pair .str .nl)) u20_7 u20_2).2.1)) = true then
        some false
       else
        l21 u20_0 u20_1 u20_2 u20_3 u20_4 u20_6 u20_7 u20_8
      else none
     else none
    else
     l21 u20_0 u20_1 u20_2 u20_3 u20_4 u20_6 u20_7 u20_8
  else
   if u20_3 = true then
    if (0 : Int) ≤ u20_2 then
     if u20_2 < (u20_7.length : Int) then
      if (!strEq u20_5 ((rd (.pair .str (.pair .str .nl)) u20_7 u20_2).2.1)) = true then
       some false
      else
       l21 u20_0 u20_1 u20_2 u20_3 u20_4 u20_6 u20_7 u20_8
     else none
    else none
   else
    l21 u20_0 u20_1 u20_2 u20_3 u20_4 u20_6 u20_7 u20_8
def m_ticketlinelaw16_PageHolds_l20 (N : Nat) (s0 : ((List (Int × (Bool × (Int × (ByteArray × (ByteArray × Unit)))))) → Int → (List Int) → (List (ByteArray × (ByteArray × Unit))) → Option Bool)) (u20_0 : (List (Int × (Bool × (Int × (ByteArray × (ByteArray × Unit))))))) (u20_1 : Int) (u20_2 : Int) (u20_3 : Bool) (u20_4 : Int) (u20_5 : ByteArray) (u20_6 : (List Int)) (u20_7 : (List (ByteArray × (ByteArray × Unit)))) (u20_8 : (List Int)) : Option Bool := m_ticketlinelaw16_PageHolds_l20_b s0 (m_ticketlinelaw16_PageHolds_l21 N s0) u20_0 u20_1 u20_2 u20_3 u20_4 u20_5 u20_6 u20_7 u20_8
def m_ticketlinelaw16_PageHolds_l19_b (s0 : ((List (Int × (Bool × (Int × (ByteArray × (ByteArray × Unit)))))) → Int → (List Int) → (List (ByteArray × (ByteArray × Unit))) → Option Bool)) (l20 : ((List (Int × (Bool × (Int × (ByteArray × (ByteArray × Unit)))))) → Int → Int → Bool → Int → ByteArray → (List Int) → (List (ByteArray × (ByteArray × Unit))) → (List Int) → Option Bool)) (u19_0 : (List (Int × (Bool × (Int × (ByteArray × (ByteArray × Unit))))))) (u19_1 : Int) (u19_2 : Int) (u19_3 : Bool) (u19_4 : (List Int)) (u19_5 : (List (ByteArray × (ByteArray × Unit)))) (u19_6 : Int) (u19_7 : Bool) (u19_8 : Int) (u19_9 : ByteArray) (u19_10 : ByteArray) (u19_11 : (List Int)) : Option Bool :=
  Option.bind (m_page_Remove u19_4 u19_9) fun r70 =>
  l20 u19_0 u19_1 u19_2 u19_3 r70.2.2 r70.2.1 u19_4 u19_5 r70.1
def m_ticketlinelaw16_PageHolds_l19 (N : Nat) (s0 : ((List (Int × (Bool × (Int × (ByteArray × (ByteArray × Unit)))))) → Int → (List Int) → (List (ByteArray × (ByteArray × Unit))) → Option Bool)) (u19_0 : (List (Int × (Bool × (Int × (ByteArray × (ByteArray × Unit))))))) (u19_1 : Int) (u19_2 : Int) (u19_3 : Bool) (u19_4 : (List Int)) (u19_5 : (List (ByteArray × (ByteArray × Unit)))) (u19_6 : Int) (u19_7 : Bool) (u19_8 : Int) (u19_9 : ByteArray) (u19_10 : ByteArray) (u19_11 : (List Int)) : Option Bool := m_ticketlinelaw16_PageHolds_l19_b s0 (m_ticketlinelaw16_PageHolds_l20 N s0) u19_0 u19_1 u19_2 u19_3 u19_4 u19_5 u19_6 u19_7 u19_8 u19_9 u19_10 u19_11
def m_ticketlinelaw16_PageHolds_l23_b (s0 : ((List (Int × (Bool × (Int × (ByteArray × (ByteArray × Unit)))))) → Int → (List Int) → (List (ByteArray × (ByteArray × Unit))) → Option Bool)) (l12 : ((List (Int × (Bool × (Int × (ByteArray × (ByteArray × Unit)))))) → Int → (List Int) → (List (ByteArray × (ByteArray × Unit))) → Option Bool)) (l13 : ((List (Int × (Bool × (Int × (ByteArray × (ByteArray × Unit)))))) → Int → (List Int) → (List Int) → (List (ByteArray × (ByteArray × Unit))) → Option Bool)) (u23_0 : (List (Int × (Bool × (Int × (ByteArray × (ByteArray × Unit))))))) (u23_1 : Int) (u23_2 : Int) (u23_3 : (List Int)) (u23_4 : (List (ByteArray × (ByteArray × Unit)))) (u23_5 : (List Int)) : Option Bool :=
  if (u23_2 != (0 : Int)) = true then
  some false
  else
  Option.bind (m_ticketlineref14_Sum u23_4) fun r92 =>
  if ((IntKind.i64.wrap ((IntKind.i64.wrap ((IntKind.i64.wrap (rd (.int .u64) u23_5 (11 : Int))) - (20 : Int))) - (u23_4.length : Int))) != (IntKind.i64.wrap ((108 : Int) - r92))) = true then
   some false
  else
   if (u23_2 != (0 : Int)) = true then
    l12 u23_0 u23_1 u23_3 u23_4
   else
    l13 u23_0 u23_1 u23_3 u23_5 u23_4
def m_ticketlinelaw16_PageHolds_l23 (N : Nat) (s0 : ((List (Int × (Bool × (Int × (ByteArray × (ByteArray × Unit)))))) → Int → (List Int) → (List (ByteArray × (ByteArray × Unit))) → Option Bool)) (u23_0 : (List (Int × (Bool × (Int × (ByteArray × (ByteArray × Unit))))))) (u23_1 : Int) (u23_2 : Int) (u23_3 : (List Int)) (u23_4 : (List (ByteArray × (ByteArray × Unit)))) (u23_5 : (List Int)) : Option Bool := m_ticketlinelaw16_PageHolds_l23_b s0 (m_ticketlinelaw16_PageHolds_l12 N s0) (m_ticketlinelaw16_PageHolds_l13 N s0) u23_0 u23_1 u23_2 u23_3 u23_4 u23_5
def m_ticketlinelaw16_PageHolds_l22_b (s0 : ((List (Int × (Bool × (Int × (ByteArray × (ByteArray × Unit)))))) → Int → (List Int) → (List (ByteArray × (ByteArray × Unit))) → Option Bool)) (l23 : ((List (Int × (Bool × (Int × (ByteArray × (ByteArray × Unit)))))) → Int → Int → (List Int) → (List (ByteArray × (ByteArray × Unit))) → (List Int) → Option Bool)) (u22_0 : (List (Int × (Bool × (Int × (ByteArray × (ByteArray × Unit))))))) (u22_1 : Int) (u22_2 : (List Int)) (u22_3 : (List (ByteArray × (ByteArray × Unit)))) (u22_4 : (List Int)) : Option Bool :=
  Option.bind (m_page_Compact u22_2) fun r85 =>
  l23 u22_0 u22_1 r85.2 u22_2 u22_3 r85.1
def m_ticketlinelaw16_PageHolds_l22 (N : Nat) (s0 : ((List (Int × (Bool × (Int × (ByteArray × (ByteArray × Unit)))))) → Int → (List Int) → (List (ByteArray × (ByteArray × Unit))) → Option Bool)) (u22_0 : (List (Int × (Bool × (Int × (ByteArray × (ByteArray × Unit))))))) (u22_1 : Int) (u22_2 : (List Int)) (u22_3 : (List (ByteArray × (ByteArray × Unit)))) (u22_4 : (List Int)) : Option Bool := m_ticketlinelaw16_PageHolds_l22_b s0 (m_ticketlinelaw16_PageHolds_l23 N s0) u22_0 u22_1 u22_2 u22_3 u22_4
def m_ticketlinelaw16_PageHolds_l6_b (s0 : ((List (Int × (Bool × (Int × (ByteArray × (ByteArray × Unit)))))) → Int → (List Int) → (List (ByteArray × (ByteArray × Unit))) → Option Bool)) (l7 : ((List (Int × (Bool × (Int × (ByteArray × (ByteArray × Unit)))))) → Int → Int → Bool → (List Int) → (List (ByteArray × (ByteArray × Unit))) → Int → Bool → Int → ByteArray → ByteArray → (List (ByteArray × (ByteArray × Unit))) → (List Int) → Option Bool)) (l19 : ((List (Int × (Bool × (Int × (ByteArray × (ByteArray × Unit)))))) → Int → Int → Bool → (List Int) → (List (ByteArray × (ByteArray × Unit))) → Int → Bool → Int → ByteArray → ByteArray → (List Int) → Option Bool)) (l22 : ((List (Int × (Bool × (Int × (ByteArray × (ByteArray × Unit)))))) → Int → (List Int) → (List (ByteArray × (ByteArray × Unit))) → (List Int) → Option Bool)) (u6_0 : (List (Int × (Bool × (Int × (ByteArray × (ByteArray × Unit))))))) (u6_1 : Int) (u6_2 : Int) (u6_3 : Bool) (u6_4 : Int) (u6_5 : (List Int)) (u6_6 : (List (ByteArray × (ByteArray × Unit)))) (u6_7 : Int) (u6_8 : Bool) (u6_9 : Int) (u6_10 : ByteArray) (u6_11 : ByteArray) (u6_12 : (List Int)) : Option Bool :=
  if (u6_4 == (0 : Int)) = true then
  if (0 : Int) ≤ u6_2 then
   if u6_2 ≤ (u6_6.length : Int) then
    if (0 : Int) ≤ u6_2 then
     let v35 := (u6_2 - (0 : Int))
     if fits (List.length (win u6_6 (0 : Int) v35)) 32 then
      let v36 := (win u6_6 (0 : Int) v35)
      let v37 := ([(u6_10, (u6_11, ()))] : List (ByteArray × (ByteArray × Unit)))
      if fits (List.length v36 + List.length v37) 32 then
       l7 u6_0 u6_1 u6_2 u6_3 u6_5 u6_6 u6_7 u6_8 u6_9 u6_10 u6_11 (v36 ++ v37) u6_12
      else none
     else none
    else none
   else none
  else none
  else
  if (u6_4 == (1 : Int)) = true then
   if (0 : Int) ≤ u6_2 then
    if u6_2 ≤ (u6_6.length : Int) then
     if (0 : Int) ≤ u6_2 then
      let v66 := (u6_2 - (0 : Int))
      if fits (List.length (win u6_6 (0 : Int) v66)) 32 then
       let v67 := (win u6_6 (0 : Int) v66)
       let v68 := ([(u6_10, (u6_11, ()))] : List (ByteArray × (ByteArray × Unit)))
       if fits (List.length v67 + List.length v68) 32 then
        l7 u6_0 u6_1 u6_2 u6_3 u6_5 u6_6 u6_7 u6_8 u6_9 u6_10 u6_11 (v67 ++ v68) u6_12
       else none
      else none
     else none
    else none
   else none
  else
   if (u6_4 == (2 : Int)) = true then
    l19 u6_0 u6_1 u6_2 u6_3 u6_5 u6_6 u6_7 u6_8 u6_9 u6_10 u6_11 u6_12
   else
    l22 u6_0 u6_1 u6_5 u6_6 u6_12
def m_ticketlinelaw16_PageHolds_l6 (N : Nat) (s0 : ((List (Int × (Bool × (Int × (ByteArray × (ByteArray × Unit)))))) → Int → (List Int) → (List (ByteArray × (ByteArray × Unit))) → Option Bool)) (u6_0 : (List (Int × (Bool × (Int × (ByteArray × (ByteArray × Unit))))))) (u6_1 : Int) (u6_2 : Int) (u6_3 : Bool) (u6_4 : Int) (u6_5 : (List Int)) (u6_6 : (List (ByteArray × (ByteArray × Unit)))) (u6_7 : Int) (u6_8 : Bool) (u6_9 : Int) (u6_10 : ByteArray) (u6_11 : ByteArray) (u6_12 : (List Int)) : Option Bool := m_ticketlinelaw16_PageHolds_l6_b s0 (m_ticketlinelaw16_PageHolds_l7 N s0) (m_ticketlinelaw16_PageHolds_l19 N s0) (m_ticketlinelaw16_PageHolds_l22 N s0) u6_0 u6_1 u6_2 u6_3 u6_4 u6_5 u6_6 u6_7 u6_8 u6_9 u6_10 u6_11 u6_12
def m_ticketlinelaw16_PageHolds_l5_b (s0 : ((List (Int × (Bool × (Int × (ByteArray × (ByteArray × Unit)))))) → Int → (List Int) → (List (ByteArray × (ByteArray × Unit))) → Option Bool)) (l6 : ((List (Int × (Bool × (Int × (ByteArray × (ByteArray × Unit)))))) → Int → Int → Bool → Int → (List Int) → (List (ByteArray × (ByteArray × Unit))) → Int → Bool → Int → ByteArray → ByteArray → (List Int) → Option Bool)) (u5_0 : (List (Int × (Bool × (Int × (ByteArray × (ByteArray × Unit))))))) (u5_1 : Int) (u5_2 : Int) (u5_3 : Bool) (u5_4 : (List Int)) (u5_5 : (List (ByteArray × (ByteArray × Unit)))) (u5_6 : Int) (u5_7 : Bool) (u5_8 : Int) (u5_9 : ByteArray) (u5_10 : ByteArray) (u5_11 : (List Int)) : Option Bool :=
  l6 u5_0 u5_1 u5_2 u5_3 u5_6 u5_4 u5_5 u5_6 u5_7 u5_8 u5_9 u5_10 u5_11
def m_ticketlinelaw16_PageHolds_l5 (N : Nat) (s0 : ((List (Int × (Bool × (Int × (ByteArray × (ByteArray × Unit)))))) → Int → (List Int) → (List (ByteArray × (ByteArray × Unit))) → Option Bool)) (u5_0 : (List (Int × (Bool × (Int × (ByteArray × (ByteArray × Unit))))))) (u5_1 : Int) (u5_2 : Int) (u5_3 : Bool) (u5_4 : (List Int)) (u5_5 : (List (ByteArray × (ByteArray × Unit)))) (u5_6 : Int) (u5_7 : Bool) (u5_8 : Int) (u5_9 : ByteArray) (u5_10 : ByteArray) (u5_11 : (List Int)) : Option Bool := m_ticketlinelaw16_PageHolds_l5_b s0 (m_ticketlinelaw16_PageHolds_l6 N s0) u5_0 u5_1 u5_2 u5_3 u5_4 u5_5 u5_6 u5_7 u5_8 u5_9 u5_10 u5_11
def m_ticketlinelaw16_PageHolds_l4_b (s0 : ((List (Int × (Bool × (Int × (ByteArray × (ByteArray × Unit)))))) → Int → (List Int) → (List (ByteArray × (ByteArray × Unit))) → Option Bool)) (l5 : ((List (Int × (Bool × (Int × (ByteArray × (ByteArray × Unit)))))) → Int → Int → Bool → (List Int) → (List (ByteArray × (ByteArray × Unit))) → Int → Bool → Int → ByteArray → ByteArray → (List Int) → Option Bool)) (u4_0 : (List (Int × (Bool × (Int × (ByteArray × (ByteArray × Unit))))))) (u4_1 : Int) (u4_2 : Int) (u4_3 : Bool) (u4_4 : (List Int)) (u4_5 : (List (ByteArray × (ByteArray × Unit)))) (u4_6 : Int) (u4_7 : Bool) (u4_8 : Int) (u4_9 : ByteArray) (u4_10 : ByteArray) (u4_11 : (List Int)) : Option Bool :=
  l5 u4_0 u4_1 u4_2 u4_3 u4_4 u4_5 u4_6 u4_7 u4_8 u4_9 u4_10 u4_11
def m_ticketlinelaw16_PageHolds_l4 (N : Nat) (s0 : ((List (Int × (Bool × (Int × (ByteArray × (ByteArray × Unit)))))) → Int → (List Int) → (List (ByteArray × (ByteArray × Unit))) → Option Bool)) (u4_0 : (List (Int × (Bool × (Int × (ByteArray × (ByteArray × Unit))))))) (u4_1 : Int) (u4_2 : Int) (u4_3 : Bool) (u4_4 : (List Int)) (u4_5 : (List (ByteArray × (ByteArray × Unit)))) (u4_6 : Int) (u4_7 : Bool) (u4_8 : Int) (u4_9 : ByteArray) (u4_10 : ByteArray) (u4_11 : (List Int)) : Option Bool := m_ticketlinelaw16_PageHolds_l4_b s0 (m_ticketlinelaw16_PageHolds_l5 N s0) u4_0 u4_1 u4_2 u4_3 u4_4 u4_5 u4_6 u4_7 u4_8 u4_9 u4_10 u4_11
def m_ticketlinelaw16_PageHolds_l3_b (s0 : ((List (Int × (Bool × (Int × (ByteArray × (ByteArray × Unit)))))) → Int → (List Int) → (List (ByteArray × (ByteArray × Unit))) → Option Bool)) (l4 : ((List (Int × (Bool × (Int × (ByteArray × (ByteArray × Unit)))))) → Int → Int → Bool → (List Int) → (List (ByteArray × (ByteArray × Unit))) → Int → Bool → Int → ByteArray → ByteArray → (List Int) → Option Bool)) (u3_0 : (List (Int × (Bool × (Int × (ByteArray × (ByteArray × Unit))))))) (u3_1 : Int) (u3_2 : Int) (u3_3 : Bool) (u3_4 : (List Int)) (u3_5 : (List (ByteArray × (ByteArray × Unit)))) (u3_6 : Int) (u3_7 : Bool) (u3_8 : Int) (u3_9 : ByteArray) (u3_10 : ByteArray) : Option Bool :=
  l4 u3_0 u3_1 u3_2 u3_3 u3_4 u3_5 u3_6 u3_7 u3_8 u3_9 u3_10 (List.replicate 128 (0 : Int))
def m_ticketlinelaw16_PageHolds_l3 (N : Nat) (s0 : ((List (Int × (Bool × (Int × (ByteArray × (ByteArray × Unit)))))) → Int → (List Int) → (List (ByteArray × (ByteArray × Unit))) → Option Bool)) (u3_0 : (List (Int × (Bool × (Int × (ByteArray × (ByteArray × Unit))))))) (u3_1 : Int) (u3_2 : Int) (u3_3 : Bool) (u3_4 : (List Int)) (u3_5 : (List (ByteArray × (ByteArray × Unit)))) (u3_6 : Int) (u3_7 : Bool) (u3_8 : Int) (u3_9 : ByteArray) (u3_10 : ByteArray) : Option Bool := m_ticketlinelaw16_PageHolds_l3_b s0 (m_ticketlinelaw16_PageHolds_l4 N s0) u3_0 u3_1 u3_2 u3_3 u3_4 u3_5 u3_6 u3_7 u3_8 u3_9 u3_10
def m_ticketlinelaw16_PageHolds_l2_b (s0 : ((List (Int × (Bool × (Int × (ByteArray × (ByteArray × Unit)))))) → Int → (List Int) → (List (ByteArray × (ByteArray × Unit))) → Option Bool)) (l3 : ((List (Int × (Bool × (Int × (ByteArray × (ByteArray × Unit)))))) → Int → Int → Bool → (List Int) → (List (ByteArray × (ByteArray × Unit))) → Int → Bool → Int → ByteArray → ByteArray → Option Bool)) (u2_0 : (List (Int × (Bool × (Int × (ByteArray × (ByteArray × Unit))))))) (u2_1 : Int) (u2_2 : Int) (u2_3 : Bool) (u2_4 : (List Int)) (u2_5 : (List (ByteArray × (ByteArray × Unit)))) (u2_6 : Int) (u2_7 : Bool) (u2_8 : Int) (u2_9 : ByteArray) (u2_10 : ByteArray) : Option Bool :=
  l3 u2_0 u2_1 u2_2 u2_3 u2_4 u2_5 u2_6 u2_7 u2_8 u2_9 u2_10
def m_ticketlinelaw16_PageHolds_l2 (N : Nat) (s0 : ((List (Int × (Bool × (Int × (ByteArray × (ByteArray × Unit)))))) → Int → (List Int) → (List (ByteArray × (ByteArray × Unit))) → Option Bool)) (u2_0 : (List (Int × (Bool × (Int × (ByteArray × (ByteArray × Unit))))))) (u2_1 : Int) (u2_2 : Int) (u2_3 : Bool) (u2_4 : (List Int)) (u2_5 : (List (ByteArray × (ByteArray × Unit)))) (u2_6 : Int) (u2_7 : Bool) (u2_8 : Int) (u2_9 : ByteArray) (u2_10 : ByteArray) : Option Bool := m_ticketlinelaw16_PageHolds_l2_b s0 (m_ticketlinelaw16_PageHolds_l3 N s0) u2_0 u2_1 u2_2 u2_3 u2_4 u2_5 u2_6 u2_7 u2_8 u2_9 u2_10
def m_ticketlinelaw16_PageHolds_l1_b (s0 : ((List (Int × (Bool × (Int × (ByteArray × (ByteArray × Unit)))))) → Int → (List Int) → (List (ByteArray × (ByteArray × Unit))) → Option Bool)) (l2 : ((List (Int × (Bool × (Int × (ByteArray × (ByteArray × Unit)))))) → Int → Int → Bool → (List Int) → (List (ByteArray × (ByteArray × Unit))) → Int → Bool → Int → ByteArray → ByteArray → Option Bool)) (u1_0 : (List (Int × (Bool × (Int × (ByteArray × (ByteArray × Unit))))))) (u1_1 : Int) (u1_2 : (List Int)) (u1_3 : (List (ByteArray × (ByteArray × Unit)))) (u1_4 : Int) (u1_5 : Bool) (u1_6 : Int) (u1_7 : ByteArray) (u1_8 : ByteArray) : Option Bool :=
  Option.bind (m_ticketlineref15_Find u1_3 u1_7) fun r32 =>
  l2 u1_0 u1_1 r32.1 r32.2 u1_2 u1_3 u1_4 u1_5 u1_6 u1_7 u1_8
def m_ticketlinelaw16_PageHolds_l1 (N : Nat) (s0 : ((List (Int × (Bool × (Int × (ByteArray × (ByteArray × Unit)))))) → Int → (List Int) → (List (ByteArray × (ByteArray × Unit))) → Option Bool)) (u1_0 : (List (Int × (Bool × (Int × (ByteArray × (ByteArray × Unit))))))) (u1_1 : Int) (u1_2 : (List Int)) (u1_3 : (List (ByteArray × (ByteArray × Unit)))) (u1_4 : Int) (u1_5 : Bool) (u1_6 : Int) (u1_7 : ByteArray) (u1_8 : ByteArray) : Option Bool := m_ticketlinelaw16_PageHolds_l1_b s0 (m_ticketlinelaw16_PageHolds_l2 N s0) u1_0 u1_1 u1_2 u1_3 u1_4 u1_5 u1_6 u1_7 u1_8
def m_ticketlinelaw16_PageHolds_l0_b (s0 : ((List (Int × (Bool × (Int × (ByteArray × (ByteArray × Unit)))))) → Int → (List Int) → (List (ByteArray × (ByteArray × Unit))) → Option Bool)) (l1 : ((List (Int × (Bool × (Int × (ByteArray × (ByteArray × Unit)))))) → Int → (List Int) → (List (ByteArray × (ByteArray × Unit))) → Int → Bool → Int → ByteArray → ByteArray → Option Bool)) (u0_0 : (List (Int × (Bool × (Int × (ByteArray × (ByteArray × Unit))))))) (u0_1 : Int) (u0_2 : (List Int)) (u0_3 : (List (ByteArray × (ByteArray × Unit)))) : Option Bool :=
  if (decide (u0_1 < (u0_0.length : Int))) = true then
  if (0 : Int) ≤ u0_1 then
   if u0_1 < (u0_0.length : Int) then
    let v16 := (rd (.pair (.int .i64) (.pair .bool (.pair (.int .u8) (.pair .str (.pair .str .nl))))) u0_0 u0_1)
    if (decide ((v16.2.2.2.1.size : Int) < (1 : Int))) = true then
     Option.bind (m_ticketlinelaw16_known) fun r19 =>
     some r19
    else
     if (decide ((v16.2.2.2.1.size : Int) > (24 : Int))) = true then
      Option.bind (m_ticketlinelaw16_known) fun r22 =>
      some r22
     else
      if (decide ((v16.2.2.2.2.1.size : Int) > (40 : Int))) = true then
       Option.bind (m_ticketlinelaw16_known) fun r25 =>
       some r25
      else
       if v16.2.1 = true then
        if (decide ((u0_3.length : Int) > (0 : Int))) = true then
         let v29 := (u0_3.length : Int)
         if v29 ≠ 0 then
          let v30 := (Int.tmod (IntKind.i64.wrap v16.2.2.1) v29)
          if (0 : Int) ≤ v30 then
           if v30 < (u0_3.length : Int) then
            l1 u0_0 u0_1 u0_2 u0_3 v16.1 v16.2.1 v16.2.2.1 ((rd (.pair .str (.pair .str .nl)) u0_3 v30).1) v16.2.2.2.2.1
           else none
          else none
         else none
        else
         l1 u0_0 u0_1 u0_2 u0_3 v16.1 v16.2.1 v16.2.2.1 v16.2.2.2.1 v16.2.2.2.2.1
       else
        l1 u0_0 u0_1 u0_2 u0_3 v16.1 v16.2.1 v16.2.2.1 v16.2.2.2.1 v16.2.2.2.2.1
   else none
  else none
  else
  Option.bind (m_ticketlinelaw16_known) fun r95 =>
  some r95
def m_ticketlinelaw16_PageHolds_l0 (N : Nat) : Nat → (List (Int × (Bool × (Int × (ByteArray × (ByteArray × Unit)))))) → Int → (List Int) → (List (ByteArray × (ByteArray × Unit))) → Option Bool
  | 0, _, _, _, _ => none
  | n + 1, u0_0, u0_1, u0_2, u0_3 => m_ticketlinelaw16_PageHolds_l0_b (m_ticketlinelaw16_PageHolds_l0 N n) (m_ticketlinelaw16_PageHolds_l1 N (m_ticketlinelaw16_PageHolds_l0 N n)) u0_0 u0_1 u0_2 u0_3
def m_ticketlinelaw16_PageHolds_a (l0 : ((List (Int × (Bool × (Int × (ByteArray × (ByteArray × Unit)))))) → Int → (List Int) → (List (ByteArray × (ByteArray × Unit))) → Option Bool)) (x0 : (Int × (Int × (ByteArray × (ByteArray × ((List (ByteArray × (ByteArray × Unit))) × ((List Int) × ((List (Int × (Int × Unit))) × Unit)))))))) (x1 : (List (Int × (Bool × (Int × (ByteArray × (ByteArray × Unit))))))) : Option Bool :=
  Option.bind (m_ticketlineref14_Plan_Used x0) fun r1 =>
  if (!r1.2) = true then
  Option.bind (m_ticketlinelaw16_known) fun r3 =>
  some r3
  else
  if ((rd (.int .u64) r1.1 (8 : Int)) != (1 : Int)) = true then
   Option.bind (m_ticketlinelaw16_known) fun r6 =>
   some r6
  else
   if (decide ((x1.length : Int) > (30 : Int))) = true then
    Option.bind (m_ticketlinelaw16_known) fun r9 =>
    some r9
   else
    Option.bind (m_ticketlineref15_Bad r1.1) fun r10 =>
    if (r10 != (0 : Int)) = true then
     Option.bind (m_ticketlinelaw16_known) fun r12 =>
     some r12
    else
     Option.bind (m_ticketlineref14_Pairs r1.1) fun r13 =>
     l0 x1 (0 : Int) r1.1 r13
def m_ticketlinelaw16_PageHolds (x0 : (Int × (Int × (ByteArray × (ByteArray × ((List (ByteArray × (ByteArray × Unit))) × ((List Int) × ((List (Int × (Int × Unit))) × Unit)))))))) (x1 : (List (Int × (Bool × (Int × (ByteArray × (ByteArray × Unit))))))) : Option Bool := m_ticketlinelaw16_PageHolds_a (m_ticketlinelaw16_PageHolds_l0 FUEL FUEL) x0 x1
end Go.Ev.M
