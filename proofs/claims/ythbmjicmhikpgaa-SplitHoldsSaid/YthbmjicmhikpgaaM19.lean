/- A part of the proof of a statement of this seat: the plain models of the functions. No condition. -/
import Derived.Test.YthbmjicmhikpgaaM14
import Derived.Test.YthbmjicmhikpgaaM15
set_option linter.unusedVariables false
namespace Go.Ev.M
open Go Go.Ev
def m_fence_place (x0 : ByteArray) (x1 : ByteArray) (x2 : ByteArray) : Option Int :=
  Option.bind (m_keys_Compare x2 x0) fun r1 =>
  if (decide (r1 < (0 : Int))) = true then
    some (-1 : Int)
  else
    if (!strEq x1 (⟨#[]⟩ : ByteArray)) = true then
      Option.bind (m_keys_Compare x2 x1) fun r4 =>
      if (decide (r4 ≥ (0 : Int))) = true then
        some (1 : Int)
      else
        some (0 : Int)
    else
      some (0 : Int)
def m_fence_Where (x0 : (List Int)) (x1 : ByteArray) : Option (Int × Int) :=
  Option.bind (m_slot_Fences x0) fun r1 =>
  if (r1.2.2 != (0 : Int)) = true then
    some ((0 : Int), r1.2.2)
  else
    Option.bind (m_fence_place r1.1 r1.2.1 x1) fun r3 =>
    some (r3, (0 : Int))
def m_ticketlinelaw19_where (x0 : (List Int)) (x1 : ByteArray) (x2 : Int) (x3 : Int) : Option Bool :=
  Option.bind (m_fence_Where x0 x1) fun r1 =>
  if (r1.1 == x2) = true then
    some (r1.2 == x3)
  else
    some false
def m_fence_Within_l0_b (s0 : (ByteArray → ByteArray → Int → Int → Int → (List (ByteArray × (ByteArray × Unit))) → Option (Bool × Int))) (u0_0 : ByteArray) (u0_1 : ByteArray) (u0_2 : Int) (u0_3 : Int) (u0_4 : Int) (u0_5 : (List (ByteArray × (ByteArray × Unit)))) : Option (Bool × Int) :=
  if (decide (u0_4 < u0_3)) = true then
    if (0 : Int) ≤ u0_4 then
      if u0_4 < (u0_5.length : Int) then
        Option.bind (m_fence_place u0_0 u0_1 ((rd (.pair .str (.pair .str .nl)) u0_5 u0_4).1)) fun r8 =>
        if (r8 != (0 : Int)) = true then
          some (false, (0 : Int))
        else
          s0 u0_0 u0_1 u0_2 u0_3 (IntKind.i64.wrap (u0_4 + (1 : Int))) u0_5
      else none
    else none
  else
    some ((u0_2 == (0 : Int)), u0_2)
def m_fence_Within_l0 (N : Nat) : Nat → ByteArray → ByteArray → Int → Int → Int → (List (ByteArray × (ByteArray × Unit))) → Option (Bool × Int)
  | 0, _, _, _, _, _, _ => none
  | n + 1, u0_0, u0_1, u0_2, u0_3, u0_4, u0_5 => m_fence_Within_l0_b (m_fence_Within_l0 N n) u0_0 u0_1 u0_2 u0_3 u0_4 u0_5
def m_fence_Within_a (l0 : (ByteArray → ByteArray → Int → Int → Int → (List (ByteArray × (ByteArray × Unit))) → Option (Bool × Int))) (x0 : (List Int)) : Option (Bool × Int) :=
  Option.bind (m_slot_Fences x0) fun r1 =>
  if (r1.2.2 != (0 : Int)) = true then
    some (false, r1.2.2)
  else
    Option.bind (m_slot_Pairs x0) fun r3 =>
    l0 r1.1 r1.2.1 r3.2 (r3.1.length : Int) (0 : Int) r3.1
def m_fence_Within (x0 : (List Int)) : Option (Bool × Int) := m_fence_Within_a (m_fence_Within_l0 FUEL FUEL) x0
def m_ticketlinelaw19_within (x0 : (List Int)) (x1 : Bool) (x2 : Int) : Option Bool :=
  Option.bind (m_fence_Within x0) fun r1 =>
  if (r1.1 == x1) = true then
    some (r1.2 == x2)
  else
    some false
def m_fence_Neighbours (x0 : (List Int)) (x1 : (List Int)) (x2 : Int) : Option Bool :=
  Option.bind (m_slot_Fences x0) fun r1 =>
  Option.bind (m_slot_Fences x1) fun r2 =>
  if (r1.2.2 != (0 : Int)) = true then
    some false
  else
    if (r2.2.2 != (0 : Int)) = true then
      some false
    else
      if (x2 == (0 : Int)) = true then
        some false
      else
        if (strEq r1.2.1 (⟨#[]⟩ : ByteArray)) = true then
          some false
        else
          Option.bind (m_slot_Level x0) fun r7 =>
          Option.bind (m_slot_Next x0) fun r8 =>
          Option.bind (m_slot_Level x1) fun r9 =>
          some (Ty.beq (.pair (.int .i64) (.pair (.int .i64) (.pair .str .nl))) (r7, (r8, (r1.2.1, ()))) (r9, (x2, (r2.1, ()))))
def m_fence_Child (x0 : (List Int)) (x1 : Int) : Option (ByteArray × ByteArray × Int) :=
  Option.bind (m_slot_Pairs x0) fun r1 =>
  if (r1.2 != (0 : Int)) = true then
    some ((⟨#[]⟩ : ByteArray), (⟨#[]⟩ : ByteArray), r1.2)
  else
    Option.bind (m_search_Sorted x0) fun r3 =>
    if (!r3) = true then
      some ((⟨#[]⟩ : ByteArray), (⟨#[]⟩ : ByteArray), (13 : Int))
    else
      Option.bind (m_slot_Level x0) fun r4 =>
      if (r4 == (0 : Int)) = true then
        some ((⟨#[]⟩ : ByteArray), (⟨#[]⟩ : ByteArray), (8 : Int))
      else
        if (decide (x1 < (0 : Int))) = true then
          some ((⟨#[]⟩ : ByteArray), (⟨#[]⟩ : ByteArray), (3 : Int))
        else
          if (decide (x1 ≥ (r1.1.length : Int))) = true then
            some ((⟨#[]⟩ : ByteArray), (⟨#[]⟩ : ByteArray), (3 : Int))
          else
            Option.bind (m_slot_Fences x0) fun r9 =>
            if (decide ((IntKind.i64.wrap (x1 + (1 : Int))) < (r1.1.length : Int))) = true then
              let v13 := (IntKind.i64.wrap (x1 + (1 : Int)))
              if (0 : Int) ≤ v13 then
                if v13 < (r1.1.length : Int) then
                  if (0 : Int) ≤ x1 then
                    if x1 < (r1.1.length : Int) then
                      some (((rd (.pair .str (.pair .str .nl)) r1.1 x1).1), ((rd (.pair .str (.pair .str .nl)) r1.1 v13).1), r9.2.2)
                    else none
                  else none
                else none
              else none
            else
              if (0 : Int) ≤ x1 then
                if x1 < (r1.1.length : Int) then
                  some (((rd (.pair .str (.pair .str .nl)) r1.1 x1).1), r9.2.1, r9.2.2)
                else none
              else none
def m_ticketlinelaw19_child (x0 : (List Int)) (x1 : Int) (x2 : ByteArray) (x3 : ByteArray) (x4 : Int) : Option Bool :=
  Option.bind (m_fence_Child x0 x1) fun r1 =>
  if (strEq r1.1 x2) = true then
    if (strEq r1.2.1 x3) = true then
      some (r1.2.2 == x4)
    else
      some false
  else
    some false
def m_fence_Link (x0 : (List Int)) (x1 : Int) (x2 : ByteArray) : Option ((List Int) × Int) :=
  Option.bind (m_slot_Fences x0) fun r2 =>
  if (r2.2.2 != (0 : Int)) = true then
    some ((List.replicate 128 (0 : Int)), r2.2.2)
  else
    if (decide (x1 < (0 : Int))) = true then
      some ((List.replicate 128 (0 : Int)), (3 : Int))
    else
      if (decide (x1 > (511 : Int))) = true then
        some ((List.replicate 128 (0 : Int)), (3 : Int))
      else
        Option.bind (m_slot_Level x0) fun r9 =>
        Option.bind (m_slot_Make r9 r2.1 x2) fun r10 =>
        if (r10.2 != (0 : Int)) = true then
          some ((List.replicate 128 (0 : Int)), r10.2)
        else
          some ((splice (List.set x0 10 (IntKind.u64.wrap x1)) (16 : Int) (List.take 4 (win r10.1 (16 : Int) (4 : Int)))), (0 : Int))
def m_ticketlinelaw19_links (x0 : (List Int)) (x1 : Int) (x2 : ByteArray) (x3 : (List Int)) (x4 : Int) : Option Bool :=
  Option.bind (m_fence_Link x0 x1 x2) fun r1 =>
  if (Ty.beq (.arr 128 (.int .u64)) r1.1 x3) = true then
    some (r1.2 == x4)
  else
    some false
def m_ticketlineref16_Make (x0 : Int) (x1 : ByteArray) (x2 : ByteArray) (x3 : Int) : Option Int :=
  if (decide (x0 < (0 : Int))) = true then
    some (2 : Int)
  else
    if (decide (x0 > (5 : Int))) = true then
      some (2 : Int)
    else
      if (decide ((x1.size : Int) > (24 : Int))) = true then
        some (5 : Int)
      else
        if (decide ((x2.size : Int) > (24 : Int))) = true then
          some (5 : Int)
        else
          if (!strEq x2 (⟨#[]⟩ : ByteArray)) = true then
            if (!strLt x1 x2) = true then
              some (13 : Int)
            else
              if (decide (x3 < (0 : Int))) = true then
                some (3 : Int)
              else
                if (decide (x3 > (511 : Int))) = true then
                  some (3 : Int)
                else
                  some (0 : Int)
          else
            if (decide (x3 < (0 : Int))) = true then
              some (3 : Int)
            else
              if (decide (x3 > (511 : Int))) = true then
                some (3 : Int)
              else
                some (0 : Int)
def m_ticketlineref16_Number (x0 : Int) : Option ByteArray :=
  some (strOf ([(0 : Int), (0 : Int), (0 : Int), (0 : Int), (0 : Int), (0 : Int), (IntKind.u8.wrap (IntKind.i64.wrap (Int.tdiv x0 (256 : Int)))), (IntKind.u8.wrap (Int.tmod x0 (256 : Int)))] : List Int))
def m_ticketlineref16_Allowed (x0 : Bool) (x1 : Int) (x2 : (ByteArray × (ByteArray × Unit))) : Option Int :=
  if (strEq x2.1 (⟨#[]⟩ : ByteArray)) = true then
    if x0 = true then
      some (2 : Int)
    else
      if (decide (x1 > (0 : Int))) = true then
        some (2 : Int)
      else
        if (!x0) = true then
          if ((x2.2.1.size : Int) == (8 : Int)) = true then
            if (6 : Int) < (x2.2.1.size : Int) then
              if (7 : Int) < (x2.2.1.size : Int) then
                let v10 := (IntKind.i64.wrap ((IntKind.i64.wrap ((IntKind.i64.wrap (bt x2.2.1 (6 : Int))) * (256 : Int))) + (IntKind.i64.wrap (bt x2.2.1 (7 : Int)))))
                if (decide (v10 < (1 : Int))) = true then
                  some (2 : Int)
                else
                  if (decide (v10 > (511 : Int))) = true then
                    some (2 : Int)
                  else
                    Option.bind (m_ticketlineref16_Number v10) fun r13 =>
                    if (!strEq x2.2.1 r13) = true then
                      some (2 : Int)
                    else
                      if (decide ((x2.1.size : Int) > (24 : Int))) = true then
                        some (5 : Int)
                      else
                        if (decide ((x2.2.1.size : Int) > (40 : Int))) = true then
                          some (5 : Int)
                        else
                          some (0 : Int)
              else none
            else none
          else
            some (2 : Int)
        else
          if (decide ((x2.1.size : Int) > (24 : Int))) = true then
            some (5 : Int)
          else
            if (decide ((x2.2.1.size : Int) > (40 : Int))) = true then
              some (5 : Int)
            else
              some (0 : Int)
  else
    if (!x0) = true then
      if ((x2.2.1.size : Int) == (8 : Int)) = true then
        if (6 : Int) < (x2.2.1.size : Int) then
          if (7 : Int) < (x2.2.1.size : Int) then
            let v30 := (IntKind.i64.wrap ((IntKind.i64.wrap ((IntKind.i64.wrap (bt x2.2.1 (6 : Int))) * (256 : Int))) + (IntKind.i64.wrap (bt x2.2.1 (7 : Int)))))
            if (decide (v30 < (1 : Int))) = true then
              some (2 : Int)
            else
              if (decide (v30 > (511 : Int))) = true then
                some (2 : Int)
              else
                Option.bind (m_ticketlineref16_Number v30) fun r33 =>
                if (!strEq x2.2.1 r33) = true then
                  some (2 : Int)
                else
                  if (decide ((x2.1.size : Int) > (24 : Int))) = true then
                    some (5 : Int)
                  else
                    if (decide ((x2.2.1.size : Int) > (40 : Int))) = true then
                      some (5 : Int)
                    else
                      some (0 : Int)
          else none
        else none
      else
        some (2 : Int)
    else
      if (decide ((x2.1.size : Int) > (24 : Int))) = true then
        some (5 : Int)
      else
        if (decide ((x2.2.1.size : Int) > (40 : Int))) = true then
          some (5 : Int)
        else
          some (0 : Int)
def m_ticketlineref16_Of_l1_b (s1 : ((List (ByteArray × (ByteArray × Unit))) → Int → (List Int) → (List Int) → Option ((List Int) × Int))) (u1_0 : (List (ByteArray × (ByteArray × Unit)))) (u1_1 : Int) (u1_2 : (List Int)) (u1_3 : (List Int)) : Option ((List Int) × Int) :=
  if (decide (u1_1 < (u1_0.length : Int))) = true then
    if (0 : Int) ≤ u1_1 then
      if u1_1 < (u1_0.length : Int) then
        Option.bind (m_ticketlineref14_Put u1_3 (rd (.pair .str (.pair .str .nl)) u1_0 u1_1)) fun r30 =>
        s1 u1_0 (IntKind.i64.wrap (u1_1 + (1 : Int))) u1_2 r30
      else none
    else none
  else
    some (u1_3, (0 : Int))
def m_ticketlineref16_Of_l1 (N : Nat) : Nat → (List (ByteArray × (ByteArray × Unit))) → Int → (List Int) → (List Int) → Option ((List Int) × Int)
  | 0, _, _, _, _ => none
  | n + 1, u1_0, u1_1, u1_2, u1_3 => m_ticketlineref16_Of_l1_b (m_ticketlineref16_Of_l1 N n) u1_0 u1_1 u1_2 u1_3
def m_ticketlineref16_Of_l0_b (s0 : (Int → ByteArray → ByteArray → Int → (List (ByteArray × (ByteArray × Unit))) → Int → (List Int) → Option ((List Int) × Int))) (l1 : ((List (ByteArray × (ByteArray × Unit))) → Int → (List Int) → (List Int) → Option ((List Int) × Int))) (u0_0 : Int) (u0_1 : ByteArray) (u0_2 : ByteArray) (u0_3 : Int) (u0_4 : (List (ByteArray × (ByteArray × Unit)))) (u0_5 : Int) (u0_6 : (List Int)) : Option ((List Int) × Int) :=
  if (decide (u0_5 < (u0_4.length : Int))) = true then
    if (0 : Int) ≤ u0_5 then
      if u0_5 < (u0_4.length : Int) then
        Option.bind (m_ticketlineref16_Allowed (u0_0 == (0 : Int)) u0_5 (rd (.pair .str (.pair .str .nl)) u0_4 u0_5)) fun r9 =>
        if (r9 != (0 : Int)) = true then
          some ((List.replicate 128 (0 : Int)), r9)
        else
          if (decide (u0_5 > (0 : Int))) = true then
            if (0 : Int) ≤ u0_5 then
              if u0_5 < (u0_4.length : Int) then
                let v13 := (rd (.pair .str (.pair .str .nl)) u0_4 u0_5)
                let v14 := (IntKind.i64.wrap (u0_5 - (1 : Int)))
                if (0 : Int) ≤ v14 then
                  if v14 < (u0_4.length : Int) then
                    let v15 := (rd (.pair .str (.pair .str .nl)) u0_4 v14)
                    if (strLt v13.1 v15.1 || strEq v13.1 v15.1) = true then
                      some ((List.replicate 128 (0 : Int)), (13 : Int))
                    else
                      s0 u0_0 u0_1 u0_2 u0_3 u0_4 (IntKind.i64.wrap (u0_5 + (1 : Int))) u0_6
                  else none
                else none
              else none
            else none
          else
            s0 u0_0 u0_1 u0_2 u0_3 u0_4 (IntKind.i64.wrap (u0_5 + (1 : Int))) u0_6
      else none
    else none
  else
    Option.bind (m_ticketlineref14_Sum u0_4) fun r20 =>
    if (decide (r20 > (108 : Int))) = true then
      some ((List.replicate 128 (0 : Int)), (7 : Int))
    else
      Option.bind (m_ticketlineref14_Empty u0_0 u0_1 u0_2) fun r23 =>
      l1 u0_4 (0 : Int) u0_6 (List.set r23 10 (IntKind.u64.wrap u0_3))
def m_ticketlineref16_Of_l0 (N : Nat) : Nat → Int → ByteArray → ByteArray → Int → (List (ByteArray × (ByteArray × Unit))) → Int → (List Int) → Option ((List Int) × Int)
  | 0, _, _, _, _, _, _, _ => none
  | n + 1, u0_0, u0_1, u0_2, u0_3, u0_4, u0_5, u0_6 => m_ticketlineref16_Of_l0_b (m_ticketlineref16_Of_l0 N n) (m_ticketlineref16_Of_l1 N N) u0_0 u0_1 u0_2 u0_3 u0_4 u0_5 u0_6
def m_ticketlineref16_Of_a (l0 : (Int → ByteArray → ByteArray → Int → (List (ByteArray × (ByteArray × Unit))) → Int → (List Int) → Option ((List Int) × Int))) (x0 : Int) (x1 : ByteArray) (x2 : ByteArray) (x3 : Int) (x4 : (List (ByteArray × (ByteArray × Unit)))) : Option ((List Int) × Int) :=
  Option.bind (m_ticketlineref16_Make x0 x1 x2 x3) fun r2 =>
  if (r2 != (0 : Int)) = true then
    some ((List.replicate 128 (0 : Int)), r2)
  else
    l0 x0 x1 x2 x3 x4 (0 : Int) (List.replicate 128 (0 : Int))
def m_ticketlineref16_Of (x0 : Int) (x1 : ByteArray) (x2 : ByteArray) (x3 : Int) (x4 : (List (ByteArray × (ByteArray × Unit)))) : Option ((List Int) × Int) := m_ticketlineref16_Of_a (m_ticketlineref16_Of_l0 FUEL FUEL) x0 x1 x2 x3 x4
def m_ticketlinelaw19_known : Option Bool :=
  Option.bind (m_ticketlineref16_Of (0 : Int) (⟨#[100]⟩ : ByteArray) (⟨#[109]⟩ : ByteArray) (7 : Int) ([((⟨#[101]⟩ : ByteArray), ((⟨#[49]⟩ : ByteArray), ())), ((⟨#[107]⟩ : ByteArray), ((⟨#[50]⟩ : ByteArray), ()))] : List (ByteArray × (ByteArray × Unit)))) fun r2 =>
  Option.bind (m_ticketlineref16_Number (3 : Int)) fun r4 =>
  Option.bind (m_ticketlineref16_Number (4 : Int)) fun r5 =>
  Option.bind (m_ticketlineref16_Of (1 : Int) (⟨#[]⟩ : ByteArray) (⟨#[]⟩ : ByteArray) (0 : Int) ([((⟨#[]⟩ : ByteArray), (r4, ())), ((⟨#[103]⟩ : ByteArray), (r5, ()))] : List (ByteArray × (ByteArray × Unit)))) fun r7 =>
  Option.bind (m_ticketlineref16_Of (0 : Int) (⟨#[109]⟩ : ByteArray) (⟨#[]⟩ : ByteArray) (0 : Int) ([] : List (ByteArray × (ByteArray × Unit)))) fun r9 =>
  if (r2.2 != (0 : Int)) = true then
    some false
  else
    if (r7.2 != (0 : Int)) = true then
      some false
    else
      if (r9.2 != (0 : Int)) = true then
        some false
      else
        Option.bind (m_ticketlinelaw19_where r2.1 (⟨#[99]⟩ : ByteArray) (-1 : Int) (0 : Int)) fun r14 =>
        if (!r14) = true then
          some false
        else
          Option.bind (m_ticketlinelaw19_where r2.1 (⟨#[100]⟩ : ByteArray) (0 : Int) (0 : Int)) fun r15 =>
          if (!r15) = true then
            some false
          else
            Option.bind (m_ticketlinelaw19_where r2.1 (⟨#[108, 122, 122]⟩ : ByteArray) (0 : Int) (0 : Int)) fun r16 =>
            if (!r16) = true then
              some false
            else
              Option.bind (m_ticketlinelaw19_where r2.1 (⟨#[109]⟩ : ByteArray) (1 : Int) (0 : Int)) fun r17 =>
              if (!r17) = true then
                some false
              else
                Option.bind (m_ticketlinelaw19_where r7.1 (⟨#[]⟩ : ByteArray) (0 : Int) (0 : Int)) fun r18 =>
                if (!r18) = true then
                  some false
                else
                  Option.bind (m_ticketlinelaw19_within r2.1 true (0 : Int)) fun r19 =>
                  if (!r19) = true then
                    some false
                  else
                    Option.bind (m_fence_Neighbours r2.1 r9.1 (7 : Int)) fun r20 =>
                    if (!r20) = true then
                      some false
                    else
                      Option.bind (m_fence_Neighbours r2.1 r9.1 (8 : Int)) fun r21 =>
                      if r21 = true then
                        some false
                      else
                        Option.bind (m_ticketlinelaw19_child r7.1 (0 : Int) (⟨#[]⟩ : ByteArray) (⟨#[103]⟩ : ByteArray) (0 : Int)) fun r22 =>
                        if (!r22) = true then
                          some false
                        else
                          Option.bind (m_ticketlinelaw19_child r7.1 (1 : Int) (⟨#[103]⟩ : ByteArray) (⟨#[]⟩ : ByteArray) (0 : Int)) fun r23 =>
                          if (!r23) = true then
                            some false
                          else
                            Option.bind (m_ticketlinelaw19_child r2.1 (0 : Int) (⟨#[]⟩ : ByteArray) (⟨#[]⟩ : ByteArray) (8 : Int)) fun r24 =>
                            if (!r24) = true then
                              some false
                            else
                              Option.bind (m_ticketlinelaw19_child r7.1 (2 : Int) (⟨#[]⟩ : ByteArray) (⟨#[]⟩ : ByteArray) (3 : Int)) fun r25 =>
                              if (!r25) = true then
                                some false
                              else
                                Option.bind (m_fence_Link r2.1 (9 : Int) (⟨#[107]⟩ : ByteArray)) fun r26 =>
                                if (r26.2 == (0 : Int)) = true then
                                  if ((rd (.int .u64) r26.1 (10 : Int)) == (9 : Int)) = true then
                                    Option.bind (m_ticketlinelaw19_where r26.1 (⟨#[107]⟩ : ByteArray) (1 : Int) (0 : Int)) fun r31 =>
                                    if r31 = true then
                                      Option.bind (m_ticketlinelaw19_within r26.1 false (0 : Int)) fun r32 =>
                                      if r32 = true then
                                        Option.bind (m_ticketlinelaw19_links r2.1 (512 : Int) (⟨#[107]⟩ : ByteArray) (List.replicate 128 (0 : Int)) (3 : Int)) fun r34 =>
                                        if r34 = true then
                                          Option.bind (m_ticketlinelaw19_links r2.1 (9 : Int) (⟨#[100]⟩ : ByteArray) (List.replicate 128 (0 : Int)) (13 : Int)) fun r36 =>
                                          if r36 = true then
                                            Option.bind (m_ticketlinelaw19_where (List.replicate 128 (0 : Int)) (⟨#[97]⟩ : ByteArray) (0 : Int) (12 : Int)) fun r38 =>
                                            some r38
                                          else
                                            some false
                                        else
                                          some false
                                      else
                                        some false
                                    else
                                      some false
                                  else
                                    some false
                                else
                                  some false
def m_ticketlineref19_Where (x0 : ByteArray) (x1 : ByteArray) (x2 : ByteArray) : Option Int :=
  if (strLt x2 x0) = true then
    some (-1 : Int)
  else
    if (!strEq x1 (⟨#[]⟩ : ByteArray)) = true then
      if (!strLt x2 x1) = true then
        some (1 : Int)
      else
        some (0 : Int)
    else
      some (0 : Int)
def m_ticketlinelaw19_FenceWheres_l1_b (s1 : (ByteArray → ByteArray → ByteArray → Bool → Int → Int → (List Int) → (List ByteArray) → Option Bool)) (u1_0 : ByteArray) (u1_1 : ByteArray) (u1_2 : ByteArray) (u1_3 : Bool) (u1_4 : Int) (u1_5 : Int) (u1_6 : (List Int)) (u1_7 : (List ByteArray)) : Option Bool :=
  if (decide (u1_5 < u1_4)) = true then
    if (0 : Int) ≤ u1_5 then
      if u1_5 < (u1_7.length : Int) then
        let v24 := (rd .str u1_7 u1_5)
        Option.bind (m_ticketlineref19_Where u1_1 u1_2 v24) fun r25 =>
        Option.bind (m_ticketlinelaw19_where u1_6 v24 r25 (0 : Int)) fun r26 =>
        if (!r26) = true then
          some false
        else
          s1 u1_0 u1_1 u1_2 u1_3 u1_4 (IntKind.i64.wrap (u1_5 + (1 : Int))) u1_6 u1_7
      else none
    else none
  else
    Option.bind (m_ticketlineref19_Where u1_1 u1_2 u1_0) fun r28 =>
    Option.bind (m_ticketlinelaw19_where u1_6 u1_0 r28 (0 : Int)) fun r29 =>
    if r29 = true then
      Option.bind (m_ticketlinelaw19_within u1_6 u1_3 (0 : Int)) fun r30 =>
      if r30 = true then
        Option.bind (m_ticketlinelaw19_known) fun r31 =>
        some r31
      else
        some false
    else
      some false
def m_ticketlinelaw19_FenceWheres_l1 (N : Nat) : Nat → ByteArray → ByteArray → ByteArray → Bool → Int → Int → (List Int) → (List ByteArray) → Option Bool
  | 0, _, _, _, _, _, _, _, _ => none
  | n + 1, u1_0, u1_1, u1_2, u1_3, u1_4, u1_5, u1_6, u1_7 => m_ticketlinelaw19_FenceWheres_l1_b (m_ticketlinelaw19_FenceWheres_l1 N n) u1_0 u1_1 u1_2 u1_3 u1_4 u1_5 u1_6 u1_7
def m_ticketlinelaw19_FenceWheres_l0_b (s0 : (ByteArray → ByteArray → ByteArray → Bool → Int → (List Int) → (List (ByteArray × (ByteArray × Unit))) → Option Bool)) (l1 : (ByteArray → ByteArray → ByteArray → Bool → Int → Int → (List Int) → (List ByteArray) → Option Bool)) (u0_0 : ByteArray) (u0_1 : ByteArray) (u0_2 : ByteArray) (u0_3 : Bool) (u0_4 : Int) (u0_5 : (List Int)) (u0_6 : (List (ByteArray × (ByteArray × Unit)))) : Option Bool :=
  if (decide (u0_4 < (u0_6.length : Int))) = true then
    if u0_3 = true then
      if (0 : Int) ≤ u0_4 then
        if u0_4 < (u0_6.length : Int) then
          Option.bind (m_ticketlineref19_Where u0_1 u0_2 ((rd (.pair .str (.pair .str .nl)) u0_6 u0_4).1)) fun r15 =>
          s0 u0_0 u0_1 u0_2 (r15 == (0 : Int)) (IntKind.i64.wrap (u0_4 + (1 : Int))) u0_5 u0_6
        else none
      else none
    else
      s0 u0_0 u0_1 u0_2 false (IntKind.i64.wrap (u0_4 + (1 : Int))) u0_5 u0_6
  else
    if u0_1.size + (⟨#[0]⟩ : ByteArray).size < 9223372036854775808 then
      if u0_2.size + (⟨#[0]⟩ : ByteArray).size < 9223372036854775808 then
        let v21 := ([u0_1, u0_2, (u0_1 ++ (⟨#[0]⟩ : ByteArray)), (u0_2 ++ (⟨#[0]⟩ : ByteArray))] : List ByteArray)
        l1 u0_0 u0_1 u0_2 u0_3 (v21.length : Int) (0 : Int) u0_5 v21
      else none
    else none
def m_ticketlinelaw19_FenceWheres_l0 (N : Nat) : Nat → ByteArray → ByteArray → ByteArray → Bool → Int → (List Int) → (List (ByteArray × (ByteArray × Unit))) → Option Bool
  | 0, _, _, _, _, _, _, _ => none
  | n + 1, u0_0, u0_1, u0_2, u0_3, u0_4, u0_5, u0_6 => m_ticketlinelaw19_FenceWheres_l0_b (m_ticketlinelaw19_FenceWheres_l0 N n) (m_ticketlinelaw19_FenceWheres_l1 N N) u0_0 u0_1 u0_2 u0_3 u0_4 u0_5 u0_6
def m_ticketlinelaw19_FenceWheres_a (l0 : (ByteArray → ByteArray → ByteArray → Bool → Int → (List Int) → (List (ByteArray × (ByteArray × Unit))) → Option Bool)) (x0 : (Int × (Int × (ByteArray × (ByteArray × ((List (ByteArray × (ByteArray × Unit))) × ((List Int) × ((List (Int × (Int × Unit))) × Unit)))))))) (x1 : ByteArray) : Option Bool :=
  Option.bind (m_ticketlineref14_Plan_Page x0) fun r1 =>
  if (!r1.2) = true then
    Option.bind (m_ticketlinelaw19_known) fun r3 =>
    some r3
  else
    if (decide ((x1.size : Int) > (60 : Int))) = true then
      Option.bind (m_ticketlinelaw19_known) fun r5 =>
      some r5
    else
      Option.bind (m_ticketlineref14_Valid r1.1) fun r6 =>
      if (!r6) = true then
        Option.bind (m_ticketlinelaw19_where r1.1 x1 (0 : Int) (12 : Int)) fun r7 =>
        if r7 = true then
          Option.bind (m_ticketlinelaw19_within r1.1 false (12 : Int)) fun r8 =>
          if r8 = true then
            Option.bind (m_ticketlinelaw19_known) fun r9 =>
            some r9
          else
            some false
        else
          some false
      else
        Option.bind (m_ticketlineref14_Fences r1.1) fun r10 =>
        Option.bind (m_ticketlineref14_Pairs r1.1) fun r11 =>
        l0 x1 r10.1 r10.2 true (0 : Int) r1.1 r11
def m_ticketlinelaw19_FenceWheres (x0 : (Int × (Int × (ByteArray × (ByteArray × ((List (ByteArray × (ByteArray × Unit))) × ((List Int) × ((List (Int × (Int × Unit))) × Unit)))))))) (x1 : ByteArray) : Option Bool := m_ticketlinelaw19_FenceWheres_a (m_ticketlinelaw19_FenceWheres_l0 FUEL FUEL) x0 x1
def m_ticketlineref19_Neighbours (x0 : (List Int)) (x1 : (List Int)) (x2 : Int) : Option Bool :=
  Option.bind (m_ticketlineref14_Valid x0) fun r1 =>
  if (!r1) = true then
    some false
  else
    Option.bind (m_ticketlineref14_Valid x1) fun r2 =>
    if (!r2) = true then
      some false
    else
      Option.bind (m_ticketlineref14_Fences x0) fun r3 =>
      Option.bind (m_ticketlineref14_Fences x1) fun r4 =>
      if ((rd (.int .u64) x0 (8 : Int)) == (rd (.int .u64) x1 (8 : Int))) = true then
        if (x2 != (0 : Int)) = true then
          if ((IntKind.i64.wrap (rd (.int .u64) x0 (10 : Int))) == x2) = true then
            if (!strEq r3.2 (⟨#[]⟩ : ByteArray)) = true then
              some (strEq r3.2 r4.1)
            else
              some false
          else
            some false
        else
          some false
      else
        some false
def m_ticketlinelaw19_FenceNeighbours_l0_b (s0 : (Int → Int → (List Int) → (List Int) → (List Int) → Option Bool)) (u0_0 : Int) (u0_1 : Int) (u0_2 : (List Int)) (u0_3 : (List Int)) (u0_4 : (List Int)) : Option Bool :=
  if (decide (u0_1 < u0_0)) = true then
    if (0 : Int) ≤ u0_1 then
      if u0_1 < (u0_4.length : Int) then
        let v10 := (rd (.int .i64) u0_4 u0_1)
        Option.bind (m_fence_Neighbours u0_2 u0_3 v10) fun r11 =>
        Option.bind (m_ticketlineref19_Neighbours u0_2 u0_3 v10) fun r12 =>
        if (!(r11 == r12)) = true then
          some false
        else
          Option.bind (m_fence_Neighbours u0_3 u0_2 v10) fun r13 =>
          Option.bind (m_ticketlineref19_Neighbours u0_3 u0_2 v10) fun r14 =>
          if (!(r13 == r14)) = true then
            some false
          else
            s0 u0_0 (IntKind.i64.wrap (u0_1 + (1 : Int))) u0_2 u0_3 u0_4
      else none
    else none
  else
    Option.bind (m_ticketlinelaw19_known) fun r16 =>
    some r16
def m_ticketlinelaw19_FenceNeighbours_l0 (N : Nat) : Nat → Int → Int → (List Int) → (List Int) → (List Int) → Option Bool
  | 0, _, _, _, _, _ => none
  | n + 1, u0_0, u0_1, u0_2, u0_3, u0_4 => m_ticketlinelaw19_FenceNeighbours_l0_b (m_ticketlinelaw19_FenceNeighbours_l0 N n) u0_0 u0_1 u0_2 u0_3 u0_4
def m_ticketlinelaw19_FenceNeighbours_a (l0 : (Int → Int → (List Int) → (List Int) → (List Int) → Option Bool)) (x0 : (Int × (Int × (ByteArray × (ByteArray × ((List (ByteArray × (ByteArray × Unit))) × ((List Int) × ((List (Int × (Int × Unit))) × Unit)))))))) (x1 : (Int × (Int × (ByteArray × (ByteArray × ((List (ByteArray × (ByteArray × Unit))) × ((List Int) × ((List (Int × (Int × Unit))) × Unit)))))))) (x2 : Int) : Option Bool :=
  Option.bind (m_ticketlineref14_Plan_Page x0) fun r1 =>
  Option.bind (m_ticketlineref14_Plan_Page x1) fun r3 =>
  if (!r1.2) = true then
    Option.bind (m_ticketlinelaw19_known) fun r5 =>
    some r5
  else
    if (!r3.2) = true then
      Option.bind (m_ticketlinelaw19_known) fun r6 =>
      some r6
    else
      let v7 := ([x2, x0.2.1, (0 : Int)] : List Int)
      l0 (v7.length : Int) (0 : Int) r1.1 r3.1 v7
def m_ticketlinelaw19_FenceNeighbours (x0 : (Int × (Int × (ByteArray × (ByteArray × ((List (ByteArray × (ByteArray × Unit))) × ((List Int) × ((List (Int × (Int × Unit))) × Unit)))))))) (x1 : (Int × (Int × (ByteArray × (ByteArray × ((List (ByteArray × (ByteArray × Unit))) × ((List Int) × ((List (Int × (Int × Unit))) × Unit)))))))) (x2 : Int) : Option Bool := m_ticketlinelaw19_FenceNeighbours_a (m_ticketlinelaw19_FenceNeighbours_l0 FUEL FUEL) x0 x1 x2
def m_ticketlineref19_Child (x0 : (List Int)) (x1 : Int) : Option (ByteArray × ByteArray) :=
  Option.bind (m_ticketlineref14_Pairs x0) fun r1 =>
  Option.bind (m_ticketlineref14_Fences x0) fun r2 =>
  if (decide ((IntKind.i64.wrap (x1 + (1 : Int))) < (r1.length : Int))) = true then
    let v6 := (IntKind.i64.wrap (x1 + (1 : Int)))
    if (0 : Int) ≤ v6 then
      if v6 < (r1.length : Int) then
        if (0 : Int) ≤ x1 then
          if x1 < (r1.length : Int) then
            some (((rd (.pair .str (.pair .str .nl)) r1 x1).1), ((rd (.pair .str (.pair .str .nl)) r1 v6).1))
          else none
        else none
      else none
    else none
  else
    if (0 : Int) ≤ x1 then
      if x1 < (r1.length : Int) then
        some (((rd (.pair .str (.pair .str .nl)) r1 x1).1), r2.2)
      else none
    else none
def m_ticketlinelaw19_FenceChildren_l0_b (s0 : (Int → Int → (List Int) → (List (ByteArray × (ByteArray × Unit))) → Option Bool)) (u0_0 : Int) (u0_1 : Int) (u0_2 : (List Int)) (u0_3 : (List (ByteArray × (ByteArray × Unit)))) : Option Bool :=
  if (decide (u0_1 < (u0_3.length : Int))) = true then
    Option.bind (m_ticketlineref19_Child u0_2 u0_1) fun r18 =>
    Option.bind (m_ticketlinelaw19_child u0_2 u0_1 r18.1 r18.2 (0 : Int)) fun r19 =>
    if (!r19) = true then
      some false
    else
      s0 u0_0 (IntKind.i64.wrap (u0_1 + (1 : Int))) u0_2 u0_3
  else
    if (decide (u0_0 ≥ (0 : Int))) = true then
      if (decide (u0_0 < (u0_3.length : Int))) = true then
        Option.bind (m_ticketlinelaw19_known) fun r24 =>
        some r24
      else
        Option.bind (m_ticketlinelaw19_child u0_2 u0_0 (⟨#[]⟩ : ByteArray) (⟨#[]⟩ : ByteArray) (3 : Int)) fun r25 =>
        if r25 = true then
          Option.bind (m_ticketlinelaw19_known) fun r26 =>
          some r26
        else
          some false
    else
      Option.bind (m_ticketlinelaw19_child u0_2 u0_0 (⟨#[]⟩ : ByteArray) (⟨#[]⟩ : ByteArray) (3 : Int)) fun r27 =>
      if r27 = true then
        Option.bind (m_ticketlinelaw19_known) fun r28 =>
        some r28
      else
        some false
def m_ticketlinelaw19_FenceChildren_l0 (N : Nat) : Nat → Int → Int → (List Int) → (List (ByteArray × (ByteArray × Unit))) → Option Bool
  | 0, _, _, _, _ => none
  | n + 1, u0_0, u0_1, u0_2, u0_3 => m_ticketlinelaw19_FenceChildren_l0_b (m_ticketlinelaw19_FenceChildren_l0 N n) u0_0 u0_1 u0_2 u0_3
def m_ticketlinelaw19_FenceChildren_a (l0 : (Int → Int → (List Int) → (List (ByteArray × (ByteArray × Unit))) → Option Bool)) (x0 : (Int × (Int × (ByteArray × (ByteArray × ((List (ByteArray × (ByteArray × Unit))) × ((List Int) × ((List (Int × (Int × Unit))) × Unit)))))))) (x1 : Int) : Option Bool :=
  Option.bind (m_ticketlineref14_Plan_Page x0) fun r1 =>
  if (!r1.2) = true then
    Option.bind (m_ticketlinelaw19_known) fun r3 =>
    some r3
  else
    Option.bind (m_ticketlineref15_Bad r1.1) fun r4 =>
    if (r4 == (0 : Int)) = true then
      if ((rd (.int .u64) r1.1 (8 : Int)) == (1 : Int)) = true then
        Option.bind (m_ticketlinelaw19_child r1.1 x1 (⟨#[]⟩ : ByteArray) (⟨#[]⟩ : ByteArray) (8 : Int)) fun r8 =>
        if r8 = true then
          Option.bind (m_ticketlinelaw19_child r1.1 (0 : Int) (⟨#[]⟩ : ByteArray) (⟨#[]⟩ : ByteArray) (8 : Int)) fun r9 =>
          if r9 = true then
            Option.bind (m_ticketlinelaw19_known) fun r10 =>
            some r10
          else
            some false
        else
          some false
      else
        if (r4 != (0 : Int)) = true then
          Option.bind (m_ticketlinelaw19_child r1.1 x1 (⟨#[]⟩ : ByteArray) (⟨#[]⟩ : ByteArray) r4) fun r12 =>
          if r12 = true then
            Option.bind (m_ticketlinelaw19_child r1.1 (0 : Int) (⟨#[]⟩ : ByteArray) (⟨#[]⟩ : ByteArray) r4) fun r13 =>
            if r13 = true then
              Option.bind (m_ticketlinelaw19_known) fun r14 =>
              some r14
            else
              some false
          else
            some false
        else
          Option.bind (m_ticketlineref14_Pairs r1.1) fun r15 =>
          l0 x1 (0 : Int) r1.1 r15
    else
      if (r4 != (0 : Int)) = true then
        Option.bind (m_ticketlinelaw19_child r1.1 x1 (⟨#[]⟩ : ByteArray) (⟨#[]⟩ : ByteArray) r4) fun r30 =>
        if r30 = true then
          Option.bind (m_ticketlinelaw19_child r1.1 (0 : Int) (⟨#[]⟩ : ByteArray) (⟨#[]⟩ : ByteArray) r4) fun r31 =>
          if r31 = true then
            Option.bind (m_ticketlinelaw19_known) fun r32 =>
            some r32
          else
            some false
        else
          some false
      else
        Option.bind (m_ticketlineref14_Pairs r1.1) fun r33 =>
        l0 x1 (0 : Int) r1.1 r33
def m_ticketlinelaw19_FenceChildren (x0 : (Int × (Int × (ByteArray × (ByteArray × ((List (ByteArray × (ByteArray × Unit))) × ((List Int) × ((List (Int × (Int × Unit))) × Unit)))))))) (x1 : Int) : Option Bool := m_ticketlinelaw19_FenceChildren_a (m_ticketlinelaw19_FenceChildren_l0 FUEL FUEL) x0 x1
def m_ticketlineref19_Link_l0_b (s0 : (Int → (List Int) → (List Int) → (List Int) → Option ((List Int) × Int))) (u0_0 : Int) (u0_1 : (List Int)) (u0_2 : (List Int)) (u0_3 : (List Int)) : Option ((List Int) × Int) :=
  if (decide (u0_0 < (3 : Int))) = true then
    let v19 := (IntKind.i64.wrap ((17 : Int) + u0_0))
    if (0 : Int) ≤ u0_0 then
      if u0_0 < (u0_3.length : Int) then
        if (0 : Int) ≤ v19 then
          if v19 < (128 : Int) then
            s0 (IntKind.i64.wrap (u0_0 + (1 : Int))) (List.set u0_1 v19.toNat (rd (.int .u64) u0_3 u0_0)) u0_2 u0_3
          else none
        else none
      else none
    else none
  else
    some (u0_1, (0 : Int))
def m_ticketlineref19_Link_l0 (N : Nat) : Nat → Int → (List Int) → (List Int) → (List Int) → Option ((List Int) × Int)
  | 0, _, _, _, _ => none
  | n + 1, u0_0, u0_1, u0_2, u0_3 => m_ticketlineref19_Link_l0_b (m_ticketlineref19_Link_l0 N n) u0_0 u0_1 u0_2 u0_3
def m_ticketlineref19_Link_a (l0 : (Int → (List Int) → (List Int) → (List Int) → Option ((List Int) × Int))) (x0 : (List Int)) (x1 : Int) (x2 : ByteArray) : Option ((List Int) × Int) :=
  let v1 := (List.replicate 128 (0 : Int))
  Option.bind (m_ticketlineref14_Fences x0) fun r2 =>
  if (decide (x1 < (0 : Int))) = true then
    some ((List.replicate 128 (0 : Int)), (3 : Int))
  else
    if (decide (x1 > (511 : Int))) = true then
      some ((List.replicate 128 (0 : Int)), (3 : Int))
    else
      if (decide ((x2.size : Int) > (24 : Int))) = true then
        some ((List.replicate 128 (0 : Int)), (5 : Int))
      else
        if (!strEq x2 (⟨#[]⟩ : ByteArray)) = true then
          if (strLt x2 r2.1 || strEq x2 r2.1) = true then
            some ((List.replicate 128 (0 : Int)), (13 : Int))
          else
            Option.bind (m_ticketlineref14_Pack x2) fun r16 =>
            let v17 := ([(0 : Int), (0 : Int), (0 : Int)] : List Int)
            if fits (List.length r16 + List.length v17) 8 then
              l0 (0 : Int) (List.set (List.set x0 10 (IntKind.u64.wrap x1)) 16 (IntKind.u64.wrap (x2.size : Int))) v1 (r16 ++ v17)
            else none
        else
          Option.bind (m_ticketlineref14_Pack x2) fun r27 =>
          let v28 := ([(0 : Int), (0 : Int), (0 : Int)] : List Int)
          if fits (List.length r27 + List.length v28) 8 then
            l0 (0 : Int) (List.set (List.set x0 10 (IntKind.u64.wrap x1)) 16 (IntKind.u64.wrap (x2.size : Int))) v1 (r27 ++ v28)
          else none
def m_ticketlineref19_Link (x0 : (List Int)) (x1 : Int) (x2 : ByteArray) : Option ((List Int) × Int) := m_ticketlineref19_Link_a (m_ticketlineref19_Link_l0 FUEL FUEL) x0 x1 x2
def m_ticketlinelaw19_FenceLinks (x0 : (Int × (Int × (ByteArray × (ByteArray × ((List (ByteArray × (ByteArray × Unit))) × ((List Int) × ((List (Int × (Int × Unit))) × Unit)))))))) (x1 : Int) (x2 : ByteArray) : Option Bool :=
  Option.bind (m_ticketlineref14_Plan_Page x0) fun r1 =>
  if (!r1.2) = true then
    Option.bind (m_ticketlinelaw19_known) fun r3 =>
    some r3
  else
    if (decide ((x2.size : Int) > (60 : Int))) = true then
      Option.bind (m_ticketlinelaw19_known) fun r5 =>
      some r5
    else
      Option.bind (m_ticketlineref14_Valid r1.1) fun r6 =>
      if (!r6) = true then
        Option.bind (m_ticketlinelaw19_links r1.1 x1 x2 (List.replicate 128 (0 : Int)) (12 : Int)) fun r8 =>
        if r8 = true then
          Option.bind (m_ticketlinelaw19_known) fun r9 =>
          some r9
        else
          some false
      else
        Option.bind (m_ticketlineref19_Link r1.1 x1 x2) fun r10 =>
        Option.bind (m_ticketlinelaw19_links r1.1 x1 x2 r10.1 r10.2) fun r12 =>
        if r12 = true then
          Option.bind (m_ticketlinelaw19_known) fun r13 =>
          some r13
        else
          some false
def m_ticketlinelaw19_FenceHolds_l1_b (s1 : (Int → Int → (List Int) → (List Int) → (List ByteArray) → Option Bool)) (u1_0 : Int) (u1_1 : Int) (u1_2 : (List Int)) (u1_3 : (List Int)) (u1_4 : (List ByteArray)) : Option Bool :=
  if (decide (u1_1 < u1_0)) = true then
    if (0 : Int) ≤ u1_1 then
      if u1_1 < (u1_4.length : Int) then
        let v57 := (rd .str u1_4 u1_1)
        Option.bind (m_fence_Where u1_3 v57) fun r58 =>
        Option.bind (m_fence_Where u1_2 v57) fun r59 =>
        if (r58.2 != (0 : Int)) = true then
          some false
        else
          if (r59.2 != (0 : Int)) = true then
            some false
          else
            if (r58.1 == (0 : Int)) = true then
              if (r59.1 == (0 : Int)) = true then
                some false
              else
                if (r58.1 == (1 : Int)) = true then
                  if (r59.1 == (-1 : Int)) = true then
                    some false
                  else
                    s1 u1_0 (IntKind.i64.wrap (u1_1 + (1 : Int))) u1_2 u1_3 u1_4
                else
                  s1 u1_0 (IntKind.i64.wrap (u1_1 + (1 : Int))) u1_2 u1_3 u1_4
            else
              if (r58.1 == (1 : Int)) = true then
                if (r59.1 == (-1 : Int)) = true then
                  some false
                else
                  s1 u1_0 (IntKind.i64.wrap (u1_1 + (1 : Int))) u1_2 u1_3 u1_4
              else
                s1 u1_0 (IntKind.i64.wrap (u1_1 + (1 : Int))) u1_2 u1_3 u1_4
      else none
    else none
  else
    Option.bind (m_ticketlinelaw19_known) fun r72 =>
    some r72
def m_ticketlinelaw19_FenceHolds_l1 (N : Nat) : Nat → Int → Int → (List Int) → (List Int) → (List ByteArray) → Option Bool
  | 0, _, _, _, _, _ => none
  | n + 1, u1_0, u1_1, u1_2, u1_3, u1_4 => m_ticketlinelaw19_FenceHolds_l1_b (m_ticketlinelaw19_FenceHolds_l1 N n) u1_0 u1_1 u1_2 u1_3 u1_4
def m_ticketlinelaw19_FenceHolds_l0_b (s0 : (Int → ByteArray → ByteArray → Int → (List Int) → (List Int) → (List (ByteArray × (ByteArray × Unit))) → Option Bool)) (l1 : (Int → Int → (List Int) → (List Int) → (List ByteArray) → Option Bool)) (u0_0 : Int) (u0_1 : ByteArray) (u0_2 : ByteArray) (u0_3 : Int) (u0_4 : (List Int)) (u0_5 : (List Int)) (u0_6 : (List (ByteArray × (ByteArray × Unit)))) : Option Bool :=
  if (decide ((IntKind.i64.wrap (u0_3 + (1 : Int))) < (u0_6.length : Int))) = true then
    if (decide ((rd (.int .u64) u0_4 (8 : Int)) > (1 : Int))) = true then
      Option.bind (m_ticketlineref15_Bad u0_4) fun r28 =>
      if (r28 == (0 : Int)) = true then
        Option.bind (m_fence_Child u0_4 u0_3) fun r30 =>
        Option.bind (m_fence_Child u0_4 (IntKind.i64.wrap (u0_3 + (1 : Int)))) fun r32 =>
        if (r30.2.2 != (0 : Int)) = true then
          some false
        else
          if (r32.2.2 != (0 : Int)) = true then
            some false
          else
            if (!strEq r30.2.1 r32.1) = true then
              some false
            else
              if (strEq r30.2.1 (⟨#[]⟩ : ByteArray)) = true then
                some false
              else
                s0 u0_0 u0_1 u0_2 (IntKind.i64.wrap (u0_3 + (1 : Int))) u0_4 u0_5 u0_6
      else
        Option.bind (m_ticketlineref14_Fences u0_5) fun r38 =>
        Option.bind (m_fence_Link u0_4 (IntKind.i64.wrap u0_0) r38.1) fun r40 =>
        if (r40.2 != (0 : Int)) = true then
          Option.bind (m_ticketlinelaw19_known) fun r43 =>
          some r43
        else
          if (strEq r38.1 (⟨#[]⟩ : ByteArray)) = true then
            Option.bind (m_ticketlinelaw19_known) fun r45 =>
            some r45
          else
            if ((rd (.int .u64) u0_4 (8 : Int)) != (rd (.int .u64) u0_5 (8 : Int))) = true then
              Option.bind (m_ticketlinelaw19_known) fun r48 =>
              some r48
            else
              Option.bind (m_fence_Neighbours r40.1 u0_5 (IntKind.i64.wrap u0_0)) fun r50 =>
              if (!r50) = true then
                some false
              else
                Option.bind (m_fence_Neighbours r40.1 u0_5 (IntKind.i64.wrap ((IntKind.i64.wrap u0_0) + (1 : Int)))) fun r53 =>
                if r53 = true then
                  some false
                else
                  let v54 := ([u0_1, u0_2, r38.1] : List ByteArray)
                  l1 (v54.length : Int) (0 : Int) u0_5 r40.1 v54
    else
      Option.bind (m_ticketlineref14_Fences u0_5) fun r73 =>
      Option.bind (m_fence_Link u0_4 (IntKind.i64.wrap u0_0) r73.1) fun r75 =>
      if (r75.2 != (0 : Int)) = true then
        Option.bind (m_ticketlinelaw19_known) fun r78 =>
        some r78
      else
        if (strEq r73.1 (⟨#[]⟩ : ByteArray)) = true then
          Option.bind (m_ticketlinelaw19_known) fun r80 =>
          some r80
        else
          if ((rd (.int .u64) u0_4 (8 : Int)) != (rd (.int .u64) u0_5 (8 : Int))) = true then
            Option.bind (m_ticketlinelaw19_known) fun r83 =>
            some r83
          else
            Option.bind (m_fence_Neighbours r75.1 u0_5 (IntKind.i64.wrap u0_0)) fun r85 =>
            if (!r85) = true then
              some false
            else
              Option.bind (m_fence_Neighbours r75.1 u0_5 (IntKind.i64.wrap ((IntKind.i64.wrap u0_0) + (1 : Int)))) fun r88 =>
              if r88 = true then
                some false
              else
                let v89 := ([u0_1, u0_2, r73.1] : List ByteArray)
                l1 (v89.length : Int) (0 : Int) u0_5 r75.1 v89
  else
    Option.bind (m_ticketlineref14_Fences u0_5) fun r91 =>
    Option.bind (m_fence_Link u0_4 (IntKind.i64.wrap u0_0) r91.1) fun r93 =>
    if (r93.2 != (0 : Int)) = true then
      Option.bind (m_ticketlinelaw19_known) fun r96 =>
      some r96
    else
      if (strEq r91.1 (⟨#[]⟩ : ByteArray)) = true then
        Option.bind (m_ticketlinelaw19_known) fun r98 =>
        some r98
      else
        if ((rd (.int .u64) u0_4 (8 : Int)) != (rd (.int .u64) u0_5 (8 : Int))) = true then
          Option.bind (m_ticketlinelaw19_known) fun r101 =>
          some r101
        else
          Option.bind (m_fence_Neighbours r93.1 u0_5 (IntKind.i64.wrap u0_0)) fun r103 =>
          if (!r103) = true then
            some false
          else
            Option.bind (m_fence_Neighbours r93.1 u0_5 (IntKind.i64.wrap ((IntKind.i64.wrap u0_0) + (1 : Int)))) fun r106 =>
            if r106 = true then
              some false
            else
              let v107 := ([u0_1, u0_2, r91.1] : List ByteArray)
              l1 (v107.length : Int) (0 : Int) u0_5 r93.1 v107
def m_ticketlinelaw19_FenceHolds_l0 (N : Nat) : Nat → Int → ByteArray → ByteArray → Int → (List Int) → (List Int) → (List (ByteArray × (ByteArray × Unit))) → Option Bool
  | 0, _, _, _, _, _, _, _ => none
  | n + 1, u0_0, u0_1, u0_2, u0_3, u0_4, u0_5, u0_6 => m_ticketlinelaw19_FenceHolds_l0_b (m_ticketlinelaw19_FenceHolds_l0 N n) (m_ticketlinelaw19_FenceHolds_l1 N N) u0_0 u0_1 u0_2 u0_3 u0_4 u0_5 u0_6
def m_ticketlinelaw19_FenceHolds_a (l0 : (Int → ByteArray → ByteArray → Int → (List Int) → (List Int) → (List (ByteArray × (ByteArray × Unit))) → Option Bool)) (x0 : (Int × (Int × (ByteArray × (ByteArray × ((List (ByteArray × (ByteArray × Unit))) × ((List Int) × ((List (Int × (Int × Unit))) × Unit)))))))) (x1 : (Int × (Int × (ByteArray × (ByteArray × ((List (ByteArray × (ByteArray × Unit))) × ((List Int) × ((List (Int × (Int × Unit))) × Unit)))))))) (x2 : Int) (x3 : ByteArray) (x4 : ByteArray) : Option Bool :=
  Option.bind (m_ticketlineref14_Plan_Used x0) fun r1 =>
  Option.bind (m_ticketlineref14_Plan_Used x1) fun r3 =>
  if (!r1.2) = true then
    Option.bind (m_ticketlinelaw19_known) fun r5 =>
    some r5
  else
    if (!r3.2) = true then
      Option.bind (m_ticketlinelaw19_known) fun r6 =>
      some r6
    else
      if (decide ((x3.size : Int) > (60 : Int))) = true then
        Option.bind (m_ticketlinelaw19_known) fun r8 =>
        some r8
      else
        if (decide ((x4.size : Int) > (60 : Int))) = true then
          Option.bind (m_ticketlinelaw19_known) fun r10 =>
          some r10
        else
          if (decide (x2 < (1 : Int))) = true then
            Option.bind (m_ticketlinelaw19_known) fun r12 =>
            some r12
          else
            if (decide (x2 > (511 : Int))) = true then
              Option.bind (m_ticketlinelaw19_known) fun r14 =>
              some r14
            else
              Option.bind (m_fence_Where r1.1 (mnS x3 x4)) fun r15 =>
              Option.bind (m_fence_Where r1.1 (mxS x3 x4)) fun r16 =>
              Option.bind (m_ticketlineref14_Fences r1.1) fun r17 =>
              if (r15.2 != (0 : Int)) = true then
                some false
              else
                if (r16.2 != (0 : Int)) = true then
                  some false
                else
                  if (strEq r17.2 (⟨#[]⟩ : ByteArray)) = true then
                    if (decide (r15.1 > r16.1)) = true then
                      some false
                    else
                      Option.bind (m_ticketlineref14_Pairs r1.1) fun r22 =>
                      l0 x2 x3 x4 (0 : Int) r1.1 r3.1 r22
                  else
                    if (strLt r17.1 r17.2) = true then
                      if (decide (r15.1 > r16.1)) = true then
                        some false
                      else
                        Option.bind (m_ticketlineref14_Pairs r1.1) fun r111 =>
                        l0 x2 x3 x4 (0 : Int) r1.1 r3.1 r111
                    else
                      Option.bind (m_ticketlineref14_Pairs r1.1) fun r112 =>
                      l0 x2 x3 x4 (0 : Int) r1.1 r3.1 r112
def m_ticketlinelaw19_FenceHolds (x0 : (Int × (Int × (ByteArray × (ByteArray × ((List (ByteArray × (ByteArray × Unit))) × ((List Int) × ((List (Int × (Int × Unit))) × Unit)))))))) (x1 : (Int × (Int × (ByteArray × (ByteArray × ((List (ByteArray × (ByteArray × Unit))) × ((List Int) × ((List (Int × (Int × Unit))) × Unit)))))))) (x2 : Int) (x3 : ByteArray) (x4 : ByteArray) : Option Bool := m_ticketlinelaw19_FenceHolds_a (m_ticketlinelaw19_FenceHolds_l0 FUEL FUEL) x0 x1 x2 x3 x4
end Go.Ev.M
