/- A part of the proof of a statement of this seat: the plain models of the functions. No condition. -/
import Derived.Test.YtmageoiakgcgmaaM14
import Derived.Test.YtmageoiakgcgmaaEv30
set_option linter.unusedVariables false
namespace Go.Ev.M
open Go Go.Ev
def m_keys_ValidKey (x0 : ByteArray) : Option Bool :=
  if (decide ((x0.size : Int) ≥ (1 : Int))) = true then
  some (decide ((x0.size : Int) ≤ (24 : Int)))
  else
  some false
def m_keys_Prefix_l0_b (s0 : (ByteArray → ByteArray → Int → Option Int)) (u0_0 : ByteArray) (u0_1 : ByteArray) (u0_2 : Int) : Option Int :=
  if (decide (u0_2 < (u0_0.size : Int))) = true then
  if (decide (u0_2 < (u0_1.size : Int))) = true then
   if (0 : Int) ≤ u0_2 then
    if u0_2 < (u0_0.size : Int) then
     if (0 : Int) ≤ u0_2 then
      if u0_2 < (u0_1.size : Int) then
       if ((bt u0_0 u0_2) == (bt u0_1 u0_2)) = true then
        s0 u0_0 u0_1 (IntKind.i64.wrap (u0_2 + (1 : Int)))
       else
        some u0_2
      else none
     else none
    else none
   else none
  else
   some u0_2
  else
  some u0_2
def m_keys_Prefix_l0 (N : Nat) : Nat → ByteArray → ByteArray → Int → Option Int
  | 0, _, _, _ => none
  | n + 1, u0_0, u0_1, u0_2 => m_keys_Prefix_l0_b (m_keys_Prefix_l0 N n) u0_0 u0_1 u0_2
def m_keys_Prefix_a (l0 : (ByteArray → ByteArray → Int → Option Int)) (x0 : ByteArray) (x1 : ByteArray) : Option Int :=
  l0 x0 x1 (0 : Int)
def m_keys_Prefix (x0 : ByteArray) (x1 : ByteArray) : Option Int := m_keys_Prefix_a (m_keys_Prefix_l0 FUEL FUEL) x0 x1
def m_ticketlineref05_Same_l0_b (s0 : ((List Int) → (List Int) → Int → Option Bool)) (u0_0 : (List Int)) (u0_1 : (List Int)) (u0_2 : Int) : Option Bool :=
  if (decide (u0_2 < (u0_0.length : Int))) = true then
  if (0 : Int) ≤ u0_2 then
   if u0_2 < (u0_0.length : Int) then
    if (0 : Int) ≤ u0_2 then
     if u0_2 < (u0_1.length : Int) then
      if ((rd (.int .u64) u0_0 u0_2) != (rd (.int .u64) u0_1 u0_2)) = true then
       some false
      else
       s0 u0_0 u0_1 (IntKind.i64.wrap (u0_2 + (1 : Int)))
     else none
    else none
   else none
  else none
  else
  some true
def m_ticketlineref05_Same_l0 (N : Nat) : Nat → (List Int) → (List Int) → Int → Option Bool
  | 0, _, _, _ => none
  | n + 1, u0_0, u0_1, u0_2 => m_ticketlineref05_Same_l0_b (m_ticketlineref05_Same_l0 N n) u0_0 u0_1 u0_2
def m_ticketlineref05_Same_a (l0 : ((List Int) → (List Int) → Int → Option Bool)) (x0 : (List Int)) (x1 : (List Int)) : Option Bool :=
  if ((x0.length : Int) != (x1.length : Int)) = true then
  some false
  else
  l0 x0 x1 (0 : Int)
def m_ticketlineref05_Same (x0 : (List Int)) (x1 : (List Int)) : Option Bool := m_ticketlineref05_Same_a (m_ticketlineref05_Same_l0 FUEL FUEL) x0 x1
def m_ticketlinelaw05_packs (x0 : ByteArray) (x1 : (List Int)) (x2 : Int) : Option Bool :=
  Option.bind (m_keys_Pack x0) fun r1 =>
  Option.bind (m_ticketlineref05_Same r1.1 x1) fun r2 =>
  if r2 = true then
  some (r1.2 == x2)
  else
  some false
def m_ticketlinelaw05_unpacks (x0 : (List Int)) (x1 : Int) (x2 : ByteArray) (x3 : Int) : Option Bool :=
  Option.bind (m_keys_Unpack x0 x1) fun r1 =>
  if (strEq r1.1 x2) = true then
  some (r1.2 == x3)
  else
  some false
def m_keys_After_l0_b (s0 : ((List Int) → Option (ByteArray × Int))) (u0_0 : (List Int)) : Option (ByteArray × Int) :=
  if (decide ((u0_0.length : Int) > (0 : Int))) = true then
  let v7 := (IntKind.i64.wrap ((u0_0.length : Int) - (1 : Int)))
  if (0 : Int) ≤ v7 then
   if v7 < (u0_0.length : Int) then
    if ((rd (.int .u8) u0_0 v7) == (255 : Int)) = true then
     let v11 := (IntKind.i64.wrap ((u0_0.length : Int) - (1 : Int)))
     if (0 : Int) ≤ v11 then
      if v11 ≤ (u0_0.length : Int) then
       if (0 : Int) ≤ v11 then
        s0 (win u0_0 (0 : Int) (v11 - (0 : Int)))
       else none
      else none
     else none
    else
     if ((u0_0.length : Int) == (0 : Int)) = true then
      some ((⟨#[]⟩ : ByteArray), (9 : Int))
     else
      let v16 := (IntKind.i64.wrap ((u0_0.length : Int) - (1 : Int)))
      if (0 : Int) ≤ v16 then
       if v16 < (u0_0.length : Int) then
        if (0 : Int) ≤ v16 then
         if v16 < (u0_0.length : Int) then
          some ((strOf (List.set u0_0 v16.toNat (IntKind.u8.wrap ((rd (.int .u8) u0_0 v16) + (1 : Int))))), (0 : Int))
         else none
        else none
       else none
      else none
   else none
  else none
  else
  if ((u0_0.length : Int) == (0 : Int)) = true then
   some ((⟨#[]⟩ : ByteArray), (9 : Int))
  else
   let v23 := (IntKind.i64.wrap ((u0_0.length : Int) - (1 : Int)))
   if (0 : Int) ≤ v23 then
    if v23 < (u0_0.length : Int) then
     if (0 : Int) ≤ v23 then
      if v23 < (u0_0.length : Int) then
       some ((strOf (List.set u0_0 v23.toNat (IntKind.u8.wrap ((rd (.int .u8) u0_0 v23) + (1 : Int))))), (0 : Int))
      else none
     else none
    else none
   else none
def m_keys_After_l0 (N : Nat) : Nat → (List Int) → Option (ByteArray × Int)
  | 0, _ => none
  | n + 1, u0_0 => m_keys_After_l0_b (m_keys_After_l0 N n) u0_0
def m_keys_After_a (l0 : ((List Int) → Option (ByteArray × Int))) (x0 : ByteArray) : Option (ByteArray × Int) :=
  Option.bind (m_keys_ValidKey x0) fun r1 =>
  if (!r1) = true then
  some ((⟨#[]⟩ : ByteArray), (2 : Int))
  else
  if (decide ((x0.size : Int) < (24 : Int))) = true then
   if x0.size + (⟨#[0]⟩ : ByteArray).size < 9223372036854775808 then
    some ((x0 ++ (⟨#[0]⟩ : ByteArray)), (0 : Int))
   else none
  else
   if x0.size < 9223372036854775808 then
    l0 (bytesOf x0)
   else none
def m_keys_After (x0 : ByteArray) : Option (ByteArray × Int) := m_keys_After_a (m_keys_After_l0 FUEL FUEL) x0
def m_ticketlinelaw05_after (x0 : ByteArray) (x1 : ByteArray) (x2 : Int) : Option Bool :=
  Option.bind (m_keys_After x0) fun r1 =>
  if (strEq r1.1 x1) = true then
  some (r1.2 == x2)
  else
  some false
def m_keys_Between (x0 : ByteArray) (x1 : ByteArray) : Option (ByteArray × Int) :=
  Option.bind (m_keys_ValidKey x0) fun r1 =>
  if (!r1) = true then
  some ((⟨#[]⟩ : ByteArray), (2 : Int))
  else
  Option.bind (m_keys_ValidKey x1) fun r2 =>
  if (!r2) = true then
   some ((⟨#[]⟩ : ByteArray), (2 : Int))
  else
   Option.bind (m_keys_Compare x0 x1) fun r3 =>
   if (decide (r3 ≥ (0 : Int))) = true then
    some ((⟨#[]⟩ : ByteArray), (13 : Int))
   else
    Option.bind (m_keys_Prefix x0 x1) fun r5 =>
    let v6 := (IntKind.i64.wrap (r5 + (1 : Int)))
    if (0 : Int) ≤ v6 then
     if v6 ≤ (x1.size : Int) then
      if (0 : Int) ≤ v6 then
       some ((ByteArray.extract x1 0 v6.toNat), (0 : Int))
      else none
     else none
    else none
def m_ticketlinelaw05_between (x0 : ByteArray) (x1 : ByteArray) (x2 : ByteArray) (x3 : Int) : Option Bool :=
  Option.bind (m_keys_Between x0 x1) fun r1 =>
  if (strEq r1.1 x2) = true then
  some (r1.2 == x3)
  else
  some false
def m_ticketlinelaw05_known : Option Bool :=
  some true
def m_internal_stringslite_HasPrefix (x0 : ByteArray) (x1 : ByteArray) : Option Bool :=
  if (decide ((x0.size : Int) ≥ (x1.size : Int))) = true then
  if (0 : Int) ≤ (x1.size : Int) then
   if (x1.size : Int) ≤ (x0.size : Int) then
    if (0 : Int) ≤ (x1.size : Int) then
     some (strEq (ByteArray.extract x0 0 (x1.size : Int).toNat) x1)
    else none
   else none
  else none
  else
  some false
def m_strings_HasPrefix (x0 : ByteArray) (x1 : ByteArray) : Option Bool :=
  Option.bind (m_internal_stringslite_HasPrefix x0 x1) fun r1 =>
  some r1
def m_ticketlineref05_Key (x0 : ByteArray) : Option Bool :=
  if (decide ((x0.size : Int) > (0 : Int))) = true then
  some (decide ((x0.size : Int) ≤ (24 : Int)))
  else
  some false
def m_ticketlineref05_Value (x0 : ByteArray) : Option Bool :=
  some (decide ((x0.size : Int) ≤ (40 : Int)))
def m_ticketlineref05_Compare_l0_b (s0 : (ByteArray → ByteArray → Int → Option Int)) (u0_0 : ByteArray) (u0_1 : ByteArray) (u0_2 : Int) : Option Int :=
  if (decide (u0_2 < (u0_0.size : Int))) = true then
  if (decide (u0_2 < (u0_1.size : Int))) = true then
   if (0 : Int) ≤ u0_2 then
    if u0_2 < (u0_0.size : Int) then
     if (0 : Int) ≤ u0_2 then
      if u0_2 < (u0_1.size : Int) then
       if (decide ((bt u0_0 u0_2) < (bt u0_1 u0_2))) = true then
        some (-1 : Int)
       else
        if (0 : Int) ≤ u0_2 then
         if u0_2 < (u0_0.size : Int) then
          if (0 : Int) ≤ u0_2 then
           if u0_2 < (u0_1.size : Int) then
            if (decide ((bt u0_0 u0_2) > (bt u0_1 u0_2))) = true then
             some (1 : Int)
            else
             s0 u0_0 u0_1 (IntKind.i64.wrap (u0_2 + (1 : Int)))
           else none
          else none
         else none
        else none
      else none
     else none
    else none
   else none
  else
   if (decide ((u0_0.size : Int) < (u0_1.size : Int))) = true then
    some (-1 : Int)
   else
    if (decide ((u0_0.size : Int) > (u0_1.size : Int))) = true then
     some (1 : Int)
    else
     some (0 : Int)
  else
  if (decide ((u0_0.size : Int) < (u0_1.size : Int))) = true then
   some (-1 : Int)
  else
   if (decide ((u0_0.size : Int) > (u0_1.size : Int))) = true then
    some (1 : Int)
   else
    some (0 : Int)
def m_ticketlineref05_Compare_l0 (N : Nat) : Nat → ByteArray → ByteArray → Int → Option Int
  | 0, _, _, _ => none
  | n + 1, u0_0, u0_1, u0_2 => m_ticketlineref05_Compare_l0_b (m_ticketlineref05_Compare_l0 N n) u0_0 u0_1 u0_2
def m_ticketlineref05_Compare_a (l0 : (ByteArray → ByteArray → Int → Option Int)) (x0 : ByteArray) (x1 : ByteArray) : Option Int :=
  l0 x0 x1 (0 : Int)
def m_ticketlineref05_Compare (x0 : ByteArray) (x1 : ByteArray) : Option Int := m_ticketlineref05_Compare_a (m_ticketlineref05_Compare_l0 FUEL FUEL) x0 x1
def m_ticketlinelaw05_KeysOrders_l0_b (s0 : (ByteArray → ByteArray → Int → Option Bool)) (u0_0 : ByteArray) (u0_1 : ByteArray) (u0_2 : Int) : Option Bool :=
  if (decide (u0_2 < (u0_0.size : Int))) = true then
  let v7 := (IntKind.i64.wrap (u0_2 + (1 : Int)))
  if (0 : Int) ≤ v7 then
   if v7 ≤ (u0_0.size : Int) then
    if (0 : Int) ≤ v7 then
     Option.bind (m_strings_HasPrefix u0_1 (ByteArray.extract u0_0 0 v7.toNat)) fun r9 =>
     if r9 = true then
      s0 u0_0 u0_1 (IntKind.i64.wrap (u0_2 + (1 : Int)))
     else
      Option.bind (m_keys_ValidKey u0_0) fun r11 =>
      Option.bind (m_ticketlineref05_Key u0_0) fun r12 =>
      if (r11 == r12) = true then
       Option.bind (m_keys_ValidValue u0_0) fun r13 =>
       Option.bind (m_ticketlineref05_Value u0_0) fun r14 =>
       if (r13 == r14) = true then
        Option.bind (m_keys_Compare u0_0 u0_1) fun r15 =>
        Option.bind (m_ticketlineref05_Compare u0_0 u0_1) fun r16 =>
        if (r15 == r16) = true then
         Option.bind (m_keys_Compare u0_1 u0_0) fun r17 =>
         Option.bind (m_ticketlineref05_Compare u0_1 u0_0) fun r18 =>
         if (r17 == r18) = true then
          Option.bind (m_keys_Prefix u0_0 u0_1) fun r19 =>
          if (r19 == u0_2) = true then
           Option.bind (m_keys_Prefix u0_1 u0_0) fun r20 =>
           if (r20 == u0_2) = true then
            Option.bind (m_ticketlinelaw05_known) fun r21 =>
            some r21
           else
            some false
          else
           some false
         else
          some false
        else
         some false
       else
        some false
      else
       some false
    else none
   else none
  else none
  else
  Option.bind (m_keys_ValidKey u0_0) fun r22 =>
  Option.bind (m_ticketlineref05_Key u0_0) fun r23 =>
  if (r22 == r23) = true then
   Option.bind (m_keys_ValidValue u0_0) fun r24 =>
   Option.bind (m_ticketlineref05_Value u0_0) fun r25 =>
   if (r24 == r25) = true then
    Option.bind (m_keys_Compare u0_0 u0_1) fun r26 =>
    Option.bind (m_ticketlineref05_Compare u0_0 u0_1) fun r27 =>
    if (r26 == r27) = true then
     Option.bind (m_keys_Compare u0_1 u0_0) fun r28 =>
     Option.bind (m_ticketlineref05_Compare u0_1 u0_0) fun r29 =>
     if (r28 == r29) = true then
      Option.bind (m_keys_Prefix u0_0 u0_1) fun r30 =>
      if (r30 == u0_2) = true then
       Option.bind (m_keys_Prefix u0_1 u0_0) fun r31 =>
       if (r31 == u0_2) = true then
        Option.bind (m_ticketlinelaw05_known) fun r32 =>
        some r32
       else
        some false
      else
       some false
     else
      some false
    else
     some false
   else
    some false
  else
   some false
def m_ticketlinelaw05_KeysOrders_l0 (N : Nat) : Nat → ByteArray → ByteArray → Int → Option Bool
  | 0, _, _, _ => none
  | n + 1, u0_0, u0_1, u0_2 => m_ticketlinelaw05_KeysOrders_l0_b (m_ticketlinelaw05_KeysOrders_l0 N n) u0_0 u0_1 u0_2
def m_ticketlinelaw05_KeysOrders_a (l0 : (ByteArray → ByteArray → Int → Option Bool)) (x0 : ByteArray) (x1 : ByteArray) : Option Bool :=
  if (decide ((x0.size : Int) > (100 : Int))) = true then
  Option.bind (m_ticketlinelaw05_known) fun r2 =>
  some r2
  else
  if (decide ((x1.size : Int) > (100 : Int))) = true then
   Option.bind (m_ticketlinelaw05_known) fun r4 =>
   some r4
  else
   l0 x0 x1 (0 : Int)
def m_ticketlinelaw05_KeysOrders (x0 : ByteArray) (x1 : ByteArray) : Option Bool := m_ticketlinelaw05_KeysOrders_a (m_ticketlinelaw05_KeysOrders_l0 FUEL FUEL) x0 x1
def m_ticketlineref05_Words (x0 : Int) : Option Int :=
  if (decide (x0 < (1 : Int))) = true then
  some (0 : Int)
  else
  if ((Int.tmod x0 (8 : Int)) == (0 : Int)) = true then
   some (IntKind.i64.wrap (Int.tdiv x0 (8 : Int)))
  else
   some (IntKind.i64.wrap ((IntKind.i64.wrap (Int.tdiv x0 (8 : Int))) + (1 : Int)))
def m_ticketlineref05_Pack_l1_b (s0 : (ByteArray → Int → (List Int) → Option (List Int))) (s1 : (ByteArray → Int → Int → Int → (List Int) → Option (List Int))) (u1_0 : ByteArray) (u1_1 : Int) (u1_2 : Int) (u1_3 : Int) (u1_4 : (List Int)) : Option (List Int) :=
  if (decide (u1_3 < (7 : Int))) = true then
  s1 u1_0 u1_1 (IntKind.u64.wrap (u1_2 * (256 : Int))) (IntKind.i64.wrap (u1_3 + (1 : Int))) u1_4
  else
  let v11 := (IntKind.i64.wrap (Int.tdiv u1_1 (8 : Int)))
  let v12 := (IntKind.i64.wrap (Int.tdiv u1_1 (8 : Int)))
  if (0 : Int) ≤ v12 then
   if v12 < (u1_4.length : Int) then
    if (0 : Int) ≤ v11 then
     if v11 < (u1_4.length : Int) then
      s0 u1_0 (IntKind.i64.wrap (u1_1 + (1 : Int))) (List.set u1_4 v11.toNat (IntKind.u64.wrap ((rd (.int .u64) u1_4 v12) + u1_2)))
     else none
    else none
   else none
  else none
def m_ticketlineref05_Pack_l1 (N : Nat) (s0 : (ByteArray → Int → (List Int) → Option (List Int))) : Nat → ByteArray → Int → Int → Int → (List Int) → Option (List Int)
  | 0, _, _, _, _, _ => none
  | n + 1, u1_0, u1_1, u1_2, u1_3, u1_4 => m_ticketlineref05_Pack_l1_b s0 (m_ticketlineref05_Pack_l1 N s0 n) u1_0 u1_1 u1_2 u1_3 u1_4
def m_ticketlineref05_Pack_l0_b (s0 : (ByteArray → Int → (List Int) → Option (List Int))) (l1 : (ByteArray → Int → Int → Int → (List Int) → Option (List Int))) (u0_0 : ByteArray) (u0_1 : Int) (u0_2 : (List Int)) : Option (List Int) :=
  if (decide (u0_1 < (u0_0.size : Int))) = true then
  if ((Int.tmod u0_1 (8 : Int)) == (0 : Int)) = true then
   let v5 := ([(0 : Int)] : List Int)
   if fits (List.length u0_2 + List.length v5) 8 then
    if (0 : Int) ≤ u0_1 then
     if u0_1 < (u0_0.size : Int) then
      l1 u0_0 u0_1 (IntKind.u64.wrap (bt u0_0 u0_1)) (Int.tmod u0_1 (8 : Int)) (u0_2 ++ v5)
     else none
    else none
   else none
  else
   if (0 : Int) ≤ u0_1 then
    if u0_1 < (u0_0.size : Int) then
     l1 u0_0 u0_1 (IntKind.u64.wrap (bt u0_0 u0_1)) (Int.tmod u0_1 (8 : Int)) u0_2
    else none
   else none
  else
  some u0_2
def m_ticketlineref05_Pack_l0 (N : Nat) : Nat → ByteArray → Int → (List Int) → Option (List Int)
  | 0, _, _, _ => none
  | n + 1, u0_0, u0_1, u0_2 => m_ticketlineref05_Pack_l0_b (m_ticketlineref05_Pack_l0 N n) (m_ticketlineref05_Pack_l1 N (m_ticketlineref05_Pack_l0 N n) N) u0_0 u0_1 u0_2
def m_ticketlineref05_Pack_a (l0 : (ByteArray → Int → (List Int) → Option (List Int))) (x0 : ByteArray) : Option (List Int) :=
  l0 x0 (0 : Int) ([] : List Int)
def m_ticketlineref05_Pack (x0 : ByteArray) : Option (List Int) := m_ticketlineref05_Pack_a (m_ticketlineref05_Pack_l0 FUEL FUEL) x0
def m_ticketlinelaw05_KeysPacks (x0 : ByteArray) (x1 : Int) : Option Bool :=
  if (decide ((x0.size : Int) > (100 : Int))) = true then
  Option.bind (m_ticketlinelaw05_known) fun r2 =>
  some r2
  else
  Option.bind (m_keys_Words x1) fun r3 =>
  Option.bind (m_ticketlineref05_Words x1) fun r4 =>
  if (r3 != r4) = true then
   some false
  else
   Option.bind (m_ticketlineref05_Value x0) fun r5 =>
   if (!r5) = true then
    Option.bind (m_ticketlinelaw05_packs x0 ([] : List Int) (5 : Int)) fun r6 =>
    if r6 = true then
     Option.bind (m_ticketlinelaw05_known) fun r7 =>
     some r7
    else
     some false
   else
    Option.bind (m_ticketlineref05_Pack x0) fun r8 =>
    Option.bind (m_ticketlinelaw05_packs x0 r8 (0 : Int)) fun r9 =>
    if r9 = true then
     Option.bind (m_ticketlineref05_Pack x0) fun r10 =>
     Option.bind (m_ticketlinelaw05_unpacks r10 (x0.size : Int) x0 (0 : Int)) fun r11 =>
     if r11 = true then
      Option.bind (m_ticketlinelaw05_known) fun r12 =>
      some r12
     else
      some false
    else
     some false
def m_ticketlineref05_Unpack_l1_b (s0 : ((List Int) → Int → Int → (List Int) → Option (ByteArray × Int))) (s1 : ((List Int) → Int → Int → Int → Int → (List Int) → Option (ByteArray × Int))) (u1_0 : (List Int)) (u1_1 : Int) (u1_2 : Int) (u1_3 : Int) (u1_4 : Int) (u1_5 : (List Int)) : Option (ByteArray × Int) :=
  if (decide (u1_4 < (7 : Int))) = true then
  s1 u1_0 u1_1 u1_2 (IntKind.u64.wrap (Int.tdiv u1_3 (256 : Int))) (IntKind.i64.wrap (u1_4 + (1 : Int))) u1_5
  else
  let v14 := ([(IntKind.u8.wrap (Int.tmod u1_3 (256 : Int)))] : List Int)
  if fits (List.length u1_5 + List.length v14) 1 then
   s0 u1_0 u1_1 (IntKind.i64.wrap (u1_2 + (1 : Int))) (u1_5 ++ v14)
  else none
def m_ticketlineref05_Unpack_l1 (N : Nat) (s0 : ((List Int) → Int → Int → (List Int) → Option (ByteArray × Int))) : Nat → (List Int) → Int → Int → Int → Int → (List Int) → Option (ByteArray × Int)
  | 0, _, _, _, _, _, _ => none
  | n + 1, u1_0, u1_1, u1_2, u1_3, u1_4, u1_5 => m_ticketlineref05_Unpack_l1_b s0 (m_ticketlineref05_Unpack_l1 N s0 n) u1_0 u1_1 u1_2 u1_3 u1_4 u1_5
def m_ticketlineref05_Unpack_l2_b (s2 : ((List Int) → Int → (List Int) → (List Int) → Option (ByteArray × Int))) (u2_0 : (List Int)) (u2_1 : Int) (u2_2 : (List Int)) (u2_3 : (List Int)) : Option (ByteArray × Int) :=
  if (decide (u2_1 < (u2_0.length : Int))) = true then
  if (0 : Int) ≤ u2_1 then
   if u2_1 < (u2_3.length : Int) then
    if (0 : Int) ≤ u2_1 then
     if u2_1 < (u2_0.length : Int) then
      if ((rd (.int .u64) u2_3 u2_1) != (rd (.int .u64) u2_0 u2_1)) = true then
       some ((⟨#[]⟩ : ByteArray), (12 : Int))
      else
       s2 u2_0 (IntKind.i64.wrap (u2_1 + (1 : Int))) u2_2 u2_3
     else none
    else none
   else none
  else none
  else
  some ((strOf u2_2), (0 : Int))
def m_ticketlineref05_Unpack_l2 (N : Nat) : Nat → (List Int) → Int → (List Int) → (List Int) → Option (ByteArray × Int)
  | 0, _, _, _, _ => none
  | n + 1, u2_0, u2_1, u2_2, u2_3 => m_ticketlineref05_Unpack_l2_b (m_ticketlineref05_Unpack_l2 N n) u2_0 u2_1 u2_2 u2_3
def m_ticketlineref05_Unpack_l0_b (s0 : ((List Int) → Int → Int → (List Int) → Option (ByteArray × Int))) (l1 : ((List Int) → Int → Int → Int → Int → (List Int) → Option (ByteArray × Int))) (l2 : ((List Int) → Int → (List Int) → (List Int) → Option (ByteArray × Int))) (u0_0 : (List Int)) (u0_1 : Int) (u0_2 : Int) (u0_3 : (List Int)) : Option (ByteArray × Int) :=
  if (decide (u0_2 < u0_1)) = true then
  let v6 := (IntKind.i64.wrap (Int.tdiv u0_2 (8 : Int)))
  if (0 : Int) ≤ v6 then
   if v6 < (u0_0.length : Int) then
    l1 u0_0 u0_1 u0_2 (rd (.int .u64) u0_0 v6) (Int.tmod u0_2 (8 : Int)) u0_3
   else none
  else none
  else
  Option.bind (m_ticketlineref05_Pack (strOf u0_3)) fun r16 =>
  l2 u0_0 (0 : Int) u0_3 r16
def m_ticketlineref05_Unpack_l0 (N : Nat) : Nat → (List Int) → Int → Int → (List Int) → Option (ByteArray × Int)
  | 0, _, _, _, _ => none
  | n + 1, u0_0, u0_1, u0_2, u0_3 => m_ticketlineref05_Unpack_l0_b (m_ticketlineref05_Unpack_l0 N n) (m_ticketlineref05_Unpack_l1 N (m_ticketlineref05_Unpack_l0 N n) N) (m_ticketlineref05_Unpack_l2 N N) u0_0 u0_1 u0_2 u0_3
def m_ticketlineref05_Unpack_a (l0 : ((List Int) → Int → Int → (List Int) → Option (ByteArray × Int))) (x0 : (List Int)) (x1 : Int) : Option (ByteArray × Int) :=
  if (decide (x1 < (0 : Int))) = true then
  some ((⟨#[]⟩ : ByteArray), (2 : Int))
  else
  if (decide (x1 > (40 : Int))) = true then
   some ((⟨#[]⟩ : ByteArray), (5 : Int))
  else
   Option.bind (m_ticketlineref05_Words x1) fun r4 =>
   if ((x0.length : Int) != r4) = true then
    some ((⟨#[]⟩ : ByteArray), (12 : Int))
   else
    l0 x0 x1 (0 : Int) ([] : List Int)
def m_ticketlineref05_Unpack (x0 : (List Int)) (x1 : Int) : Option (ByteArray × Int) := m_ticketlineref05_Unpack_a (m_ticketlineref05_Unpack_l0 FUEL FUEL) x0 x1
def m_ticketlinelaw05_KeysUnpacks (x0 : (List Int)) (x1 : Int) : Option Bool :=
  if (decide ((x0.length : Int) > (20 : Int))) = true then
  Option.bind (m_ticketlinelaw05_known) fun r3 =>
  some r3
  else
  if fits (List.length x0) 8 then
   Option.bind (m_ticketlineref05_Unpack x0 x1) fun r4 =>
   Option.bind (m_ticketlinelaw05_unpacks x0 x1 r4.1 r4.2) fun r5 =>
   if r5 = true then
    Option.bind (m_ticketlineref05_Same x0 x0) fun r6 =>
    if r6 = true then
     Option.bind (m_ticketlinelaw05_known) fun r7 =>
     some r7
    else
     some false
   else
    some false
  else none
def m_ticketlineref05_After_l0_b (s0 : (ByteArray → Int → Option (ByteArray × Int))) (u0_0 : ByteArray) (u0_1 : Int) : Option (ByteArray × Int) :=
  if (decide (u0_1 > (0 : Int))) = true then
  let v5 := (IntKind.i64.wrap (u0_1 - (1 : Int)))
  if (0 : Int) ≤ v5 then
   if v5 < (u0_0.size : Int) then
    if ((bt u0_0 v5) == (255 : Int)) = true then
     s0 u0_0 (IntKind.i64.wrap (u0_1 - (1 : Int)))
    else
     if (u0_1 == (0 : Int)) = true then
      some ((⟨#[]⟩ : ByteArray), (9 : Int))
     else
      let v9 := (IntKind.i64.wrap (u0_1 - (1 : Int)))
      if (0 : Int) ≤ v9 then
       if v9 ≤ (u0_0.size : Int) then
        if (0 : Int) ≤ v9 then
         let v10 := (ByteArray.extract u0_0 0 v9.toNat)
         let v11 := (IntKind.i64.wrap (u0_1 - (1 : Int)))
         if (0 : Int) ≤ v11 then
          if v11 < (u0_0.size : Int) then
           let v13 := ([(IntKind.u8.wrap ((bt u0_0 v11) + (1 : Int)))] : List Int)
           if v10.size + (strOf v13).size < 9223372036854775808 then
            some ((v10 ++ (strOf v13)), (0 : Int))
           else none
          else none
         else none
        else none
       else none
      else none
   else none
  else none
  else
  if (u0_1 == (0 : Int)) = true then
   some ((⟨#[]⟩ : ByteArray), (9 : Int))
  else
   let v16 := (IntKind.i64.wrap (u0_1 - (1 : Int)))
   if (0 : Int) ≤ v16 then
    if v16 ≤ (u0_0.size : Int) then
     if (0 : Int) ≤ v16 then
      let v17 := (ByteArray.extract u0_0 0 v16.toNat)
      let v18 := (IntKind.i64.wrap (u0_1 - (1 : Int)))
      if (0 : Int) ≤ v18 then
       if v18 < (u0_0.size : Int) then
        let v20 := ([(IntKind.u8.wrap ((bt u0_0 v18) + (1 : Int)))] : List Int)
        if v17.size + (strOf v20).size < 9223372036854775808 then
         some ((v17 ++ (strOf v20)), (0 : Int))
        else none
       else none
      else none
     else none
    else none
   else none
def m_ticketlineref05_After_l0 (N : Nat) : Nat → ByteArray → Int → Option (ByteArray × Int)
  | 0, _, _ => none
  | n + 1, u0_0, u0_1 => m_ticketlineref05_After_l0_b (m_ticketlineref05_After_l0 N n) u0_0 u0_1
def m_ticketlineref05_After_a (l0 : (ByteArray → Int → Option (ByteArray × Int))) (x0 : ByteArray) : Option (ByteArray × Int) :=
  if (decide ((x0.size : Int) < (24 : Int))) = true then
  let v2 := ([(0 : Int)] : List Int)
  if x0.size + (strOf v2).size < 9223372036854775808 then
   some ((x0 ++ (strOf v2)), (0 : Int))
  else none
  else
  l0 x0 (x0.size : Int)
def m_ticketlineref05_After (x0 : ByteArray) : Option (ByteArray × Int) := m_ticketlineref05_After_a (m_ticketlineref05_After_l0 FUEL FUEL) x0
def m_ticketlineref05_Between_l0_b (s0 : (ByteArray → ByteArray → Int → Option (ByteArray × Int))) (u0_0 : ByteArray) (u0_1 : ByteArray) (u0_2 : Int) : Option (ByteArray × Int) :=
  if (0 : Int) ≤ u0_2 then
  if u0_2 ≤ (u0_1.size : Int) then
   if (0 : Int) ≤ u0_2 then
    Option.bind (m_ticketlineref05_Compare (ByteArray.extract u0_1 0 u0_2.toNat) u0_0) fun r4 =>
    if (decide (r4 ≤ (0 : Int))) = true then
     s0 u0_0 u0_1 (IntKind.i64.wrap (u0_2 + (1 : Int)))
    else
     if (0 : Int) ≤ u0_2 then
      if u0_2 ≤ (u0_1.size : Int) then
       if (0 : Int) ≤ u0_2 then
        some ((ByteArray.extract u0_1 0 u0_2.toNat), (0 : Int))
       else none
      else none
     else none
   else none
  else none
  else none
def m_ticketlineref05_Between_l0 (N : Nat) : Nat → ByteArray → ByteArray → Int → Option (ByteArray × Int)
  | 0, _, _, _ => none
  | n + 1, u0_0, u0_1, u0_2 => m_ticketlineref05_Between_l0_b (m_ticketlineref05_Between_l0 N n) u0_0 u0_1 u0_2
def m_ticketlineref05_Between_a (l0 : (ByteArray → ByteArray → Int → Option (ByteArray × Int))) (x0 : ByteArray) (x1 : ByteArray) : Option (ByteArray × Int) :=
  Option.bind (m_ticketlineref05_Compare x0 x1) fun r1 =>
  if (decide (r1 ≥ (0 : Int))) = true then
  some ((⟨#[]⟩ : ByteArray), (13 : Int))
  else
  l0 x0 x1 (1 : Int)
def m_ticketlineref05_Between (x0 : ByteArray) (x1 : ByteArray) : Option (ByteArray × Int) := m_ticketlineref05_Between_a (m_ticketlineref05_Between_l0 FUEL FUEL) x0 x1
def m_ticketlinelaw05_KeysNexts (x0 : ByteArray) (x1 : ByteArray) : Option Bool :=
  if (decide ((x0.size : Int) > (100 : Int))) = true then
  Option.bind (m_ticketlinelaw05_known) fun r2 =>
  some r2
  else
  if (decide ((x1.size : Int) > (100 : Int))) = true then
   Option.bind (m_ticketlinelaw05_known) fun r4 =>
   some r4
  else
   Option.bind (m_ticketlineref05_Key x0) fun r5 =>
   if (!r5) = true then
    Option.bind (m_ticketlinelaw05_after x0 (⟨#[]⟩ : ByteArray) (2 : Int)) fun r6 =>
    if r6 = true then
     Option.bind (m_ticketlinelaw05_between x0 x1 (⟨#[]⟩ : ByteArray) (2 : Int)) fun r7 =>
     if r7 = true then
      Option.bind (m_ticketlinelaw05_between x1 x0 (⟨#[]⟩ : ByteArray) (2 : Int)) fun r8 =>
      if r8 = true then
       Option.bind (m_ticketlinelaw05_known) fun r9 =>
       some r9
      else
       some false
     else
      some false
    else
     some false
   else
    Option.bind (m_ticketlineref05_After x0) fun r10 =>
    Option.bind (m_ticketlinelaw05_after x0 r10.1 r10.2) fun r11 =>
    if (!r11) = true then
     some false
    else
     Option.bind (m_ticketlineref05_Key x1) fun r12 =>
     if (!r12) = true then
      Option.bind (m_ticketlinelaw05_between x0 x1 (⟨#[]⟩ : ByteArray) (2 : Int)) fun r13 =>
      if r13 = true then
       Option.bind (m_ticketlinelaw05_known) fun r14 =>
       some r14
      else
       some false
     else
      Option.bind (m_ticketlineref05_Between x0 x1) fun r15 =>
      Option.bind (m_ticketlinelaw05_between x0 x1 r15.1 r15.2) fun r16 =>
      if r16 = true then
       Option.bind (m_ticketlinelaw05_known) fun r17 =>
       some r17
      else
       some false
def m_ticketlinelaw05_KeysHolds_l13_b (u13_0 : ByteArray) (u13_1 : ByteArray) : Option Bool :=
  if ((u13_1.size : Int) == (1 : Int)) = true then
  Option.bind (m_ticketlinelaw05_known) fun r74 =>
  some r74
  else
  let v76 := (IntKind.i64.wrap ((u13_1.size : Int) - (1 : Int)))
  if (0 : Int) ≤ v76 then
   if v76 ≤ (u13_1.size : Int) then
    if (0 : Int) ≤ v76 then
     Option.bind (m_keys_Compare (ByteArray.extract u13_1 0 v76.toNat) u13_0) fun r78 =>
     if (decide (r78 ≤ (0 : Int))) = true then
      Option.bind (m_ticketlinelaw05_known) fun r80 =>
      some r80
     else
      some false
    else none
   else none
  else none
def m_ticketlinelaw05_KeysHolds_l13 (N : Nat) (u13_0 : ByteArray) (u13_1 : ByteArray) : Option Bool := m_ticketlinelaw05_KeysHolds_l13_b u13_0 u13_1
def m_ticketlinelaw05_KeysHolds_l12_b (l13 : (ByteArray → ByteArray → Option Bool)) (u12_0 : ByteArray) (u12_1 : ByteArray) (u12_2 : ByteArray) : Option Bool :=
  Option.bind (m_keys_Compare u12_0 u12_2) fun r61 =>
  if (r61 != (-1 : Int)) = true then
  some false
  else
  Option.bind (m_keys_Compare u12_2 u12_1) fun r63 =>
  if (decide (r63 > (0 : Int))) = true then
   some false
  else
   if (decide ((u12_2.size : Int) < (1 : Int))) = true then
    some false
   else
    Option.bind (m_keys_Prefix u12_0 u12_1) fun r68 =>
    if (decide ((u12_2.size : Int) > (IntKind.i64.wrap (r68 + (1 : Int))))) = true then
     some false
    else
     Option.bind (m_strings_HasPrefix u12_1 u12_2) fun r71 =>
     if (!r71) = true then
      some false
     else
      l13 u12_0 u12_2
def m_ticketlinelaw05_KeysHolds_l12 (N : Nat) (u12_0 : ByteArray) (u12_1 : ByteArray) (u12_2 : ByteArray) : Option Bool := m_ticketlinelaw05_KeysHolds_l12_b (m_ticketlinelaw05_KeysHolds_l13 N) u12_0 u12_1 u12_2
def m_ticketlinelaw05_KeysHolds_l11_b (l12 : (ByteArray → ByteArray → ByteArray → Option Bool)) (u11_0 : ByteArray) (u11_1 : ByteArray) (u11_2 : Int) (u11_3 : ByteArray) : Option Bool :=
  if (u11_2 != (0 : Int)) = true then
  if (strEq u11_3 (⟨#[]⟩ : ByteArray)) = true then
   Option.bind (m_ticketlinelaw05_known) fun r60 =>
   some r60
  else
   some false
  else
  l12 u11_0 u11_1 u11_3
def m_ticketlinelaw05_KeysHolds_l11 (N : Nat) (u11_0 : ByteArray) (u11_1 : ByteArray) (u11_2 : Int) (u11_3 : ByteArray) : Option Bool := m_ticketlinelaw05_KeysHolds_l11_b (m_ticketlinelaw05_KeysHolds_l12 N) u11_0 u11_1 u11_2 u11_3
def m_ticketlinelaw05_KeysHolds_l10_b (l11 : (ByteArray → ByteArray → Int → ByteArray → Option Bool)) (u10_0 : ByteArray) (u10_1 : ByteArray) (u10_2 : Int) (u10_3 : Int) (u10_4 : ByteArray) : Option Bool :=
  let v54 := (u10_3 == (0 : Int))
  Option.bind (m_keys_ValidKey u10_0) fun r55 =>
  if r55 = true then
  Option.bind (m_keys_ValidKey u10_1) fun r56 =>
  if r56 = true then
   if (!(v54 == (decide (u10_2 < (0 : Int))))) = true then
    some false
   else
    l11 u10_0 u10_1 u10_3 u10_4
  else
   if (!(v54 == false)) = true then
    some false
   else
    l11 u10_0 u10_1 u10_3 u10_4
  else
  if (!(v54 == false)) = true then
   some false
  else
   l11 u10_0 u10_1 u10_3 u10_4
def m_ticketlinelaw05_KeysHolds_l10 (N : Nat) (u10_0 : ByteArray) (u10_1 : ByteArray) (u10_2 : Int) (u10_3 : Int) (u10_4 : ByteArray) : Option Bool := m_ticketlinelaw05_KeysHolds_l10_b (m_ticketlinelaw05_KeysHolds_l11 N) u10_0 u10_1 u10_2 u10_3 u10_4
def m_ticketlinelaw05_KeysHolds_l9_b (l10 : (ByteArray → ByteArray → Int → Int → ByteArray → Option Bool)) (u9_0 : ByteArray) (u9_1 : ByteArray) (u9_2 : Int) : Option Bool :=
  Option.bind (m_keys_Between u9_0 u9_1) fun r53 =>
  l10 u9_0 u9_1 u9_2 r53.2 r53.1
def m_ticketlinelaw05_KeysHolds_l9 (N : Nat) (u9_0 : ByteArray) (u9_1 : ByteArray) (u9_2 : Int) : Option Bool := m_ticketlinelaw05_KeysHolds_l9_b (m_ticketlinelaw05_KeysHolds_l10 N) u9_0 u9_1 u9_2
def m_ticketlinelaw05_KeysHolds_l8_b (l9 : (ByteArray → ByteArray → Int → Option Bool)) (u8_0 : ByteArray) (u8_1 : ByteArray) (u8_2 : ByteArray) (u8_3 : Int) (u8_4 : ByteArray) (u8_5 : Int) : Option Bool :=
  if (u8_5 == (0 : Int)) = true then
  Option.bind (m_keys_Compare u8_0 u8_4) fun r45 =>
  if (r45 != (-1 : Int)) = true then
   some false
  else
   Option.bind (m_keys_ValidKey u8_4) fun r47 =>
   if (!r47) = true then
    some false
   else
    Option.bind (m_keys_ValidKey u8_2) fun r48 =>
    if r48 = true then
     Option.bind (m_keys_Compare u8_0 u8_2) fun r49 =>
     if (decide (r49 < (0 : Int))) = true then
      Option.bind (m_keys_Compare u8_2 u8_4) fun r51 =>
      if (decide (r51 < (0 : Int))) = true then
       some false
      else
       l9 u8_0 u8_1 u8_3
     else
      l9 u8_0 u8_1 u8_3
    else
     l9 u8_0 u8_1 u8_3
  else
  l9 u8_0 u8_1 u8_3
def m_ticketlinelaw05_KeysHolds_l8 (N : Nat) (u8_0 : ByteArray) (u8_1 : ByteArray) (u8_2 : ByteArray) (u8_3 : Int) (u8_4 : ByteArray) (u8_5 : Int) : Option Bool := m_ticketlinelaw05_KeysHolds_l8_b (m_ticketlinelaw05_KeysHolds_l9 N) u8_0 u8_1 u8_2 u8_3 u8_4 u8_5
def m_ticketlinelaw05_KeysHolds_l7_b (l8 : (ByteArray → ByteArray → ByteArray → Int → ByteArray → Int → Option Bool)) (u7_0 : ByteArray) (u7_1 : ByteArray) (u7_2 : ByteArray) (u7_3 : Int) : Option Bool :=
  Option.bind (m_keys_After u7_0) fun r43 =>
  l8 u7_0 u7_1 u7_2 u7_3 r43.1 r43.2
def m_ticketlinelaw05_KeysHolds_l7 (N : Nat) (u7_0 : ByteArray) (u7_1 : ByteArray) (u7_2 : ByteArray) (u7_3 : Int) : Option Bool := m_ticketlinelaw05_KeysHolds_l7_b (m_ticketlinelaw05_KeysHolds_l8 N) u7_0 u7_1 u7_2 u7_3
def m_ticketlinelaw05_KeysHolds_l6_b (s6 : (ByteArray → ByteArray → ByteArray → Int → Int → Int → (List Int) → (List Int) → Option Bool)) (l7 : (ByteArray → ByteArray → ByteArray → Int → Option Bool)) (u6_0 : ByteArray) (u6_1 : ByteArray) (u6_2 : ByteArray) (u6_3 : Int) (u6_4 : Int) (u6_5 : Int) (u6_6 : (List Int)) (u6_7 : (List Int)) : Option Bool :=
  if (decide (u6_5 < u6_4)) = true then
  if (0 : Int) ≤ u6_5 then
   if u6_5 < (u6_6.length : Int) then
    if (0 : Int) ≤ u6_5 then
     if u6_5 < (u6_7.length : Int) then
      if ((rd (.int .u64) u6_6 u6_5) != (rd (.int .u64) u6_7 u6_5)) = true then
       if (0 : Int) ≤ u6_5 then
        if u6_5 < (u6_6.length : Int) then
         if (0 : Int) ≤ u6_5 then
          if u6_5 < (u6_7.length : Int) then
           if (!((decide ((rd (.int .u64) u6_6 u6_5) < (rd (.int .u64) u6_7 u6_5))) == (decide (u6_3 < (0 : Int))))) = true then
            some false
           else
            l7 u6_0 u6_1 u6_2 u6_3
          else none
         else none
        else none
       else none
      else
       s6 u6_0 u6_1 u6_2 u6_3 u6_4 (IntKind.i64.wrap (u6_5 + (1 : Int))) u6_6 u6_7
     else none
    else none
   else none
  else none
  else
  l7 u6_0 u6_1 u6_2 u6_3
def m_ticketlinelaw05_KeysHolds_l6 (N : Nat) : Nat → ByteArray → ByteArray → ByteArray → Int → Int → Int → (List Int) → (List Int) → Option Bool
  | 0, _, _, _, _, _, _, _, _ => none
  | n + 1, u6_0, u6_1, u6_2, u6_3, u6_4, u6_5, u6_6, u6_7 => m_ticketlinelaw05_KeysHolds_l6_b (m_ticketlinelaw05_KeysHolds_l6 N n) (m_ticketlinelaw05_KeysHolds_l7 N) u6_0 u6_1 u6_2 u6_3 u6_4 u6_5 u6_6 u6_7
def m_ticketlinelaw05_KeysHolds_l5_b (l6 : (ByteArray → ByteArray → ByteArray → Int → Int → Int → (List Int) → (List Int) → Option Bool)) (u5_0 : ByteArray) (u5_1 : ByteArray) (u5_2 : ByteArray) (u5_3 : Int) (u5_4 : Int) (u5_5 : Int) (u5_6 : (List Int)) (u5_7 : (List Int)) : Option Bool :=
  l6 u5_0 u5_1 u5_2 u5_3 u5_4 u5_5 u5_6 u5_7
def m_ticketlinelaw05_KeysHolds_l5 (N : Nat) (u5_0 : ByteArray) (u5_1 : ByteArray) (u5_2 : ByteArray) (u5_3 : Int) (u5_4 : Int) (u5_5 : Int) (u5_6 : (List Int)) (u5_7 : (List Int)) : Option Bool := m_ticketlinelaw05_KeysHolds_l5_b (m_ticketlinelaw05_KeysHolds_l6 N N) u5_0 u5_1 u5_2 u5_3 u5_4 u5_5 u5_6 u5_7
def m_ticketlinelaw05_KeysHolds_l4_b (l5 : (ByteArray → ByteArray → ByteArray → Int → Int → Int → (List Int) → (List Int) → Option Bool)) (u4_0 : ByteArray) (u4_1 : ByteArray) (u4_2 : ByteArray) (u4_3 : Int) (u4_4 : (List Int)) (u4_5 : (List Int)) : Option Bool :=
  l5 u4_0 u4_1 u4_2 u4_3 (u4_4.length : Int) (0 : Int) u4_4 u4_5
def m_ticketlinelaw05_KeysHolds_l4 (N : Nat) (u4_0 : ByteArray) (u4_1 : ByteArray) (u4_2 : ByteArray) (u4_3 : Int) (u4_4 : (List Int)) (u4_5 : (List Int)) : Option Bool := m_ticketlinelaw05_KeysHolds_l4_b (m_ticketlinelaw05_KeysHolds_l5 N) u4_0 u4_1 u4_2 u4_3 u4_4 u4_5
def m_ticketlinelaw05_KeysHolds_l3_b (l4 : (ByteArray → ByteArray → ByteArray → Int → (List Int) → (List Int) → Option Bool)) (l7 : (ByteArray → ByteArray → ByteArray → Int → Option Bool)) (u3_0 : ByteArray) (u3_1 : ByteArray) (u3_2 : ByteArray) (u3_3 : Int) (u3_4 : Int) (u3_5 : Int) (u3_6 : (List Int)) (u3_7 : (List Int)) : Option Bool :=
  if (u3_4 == (0 : Int)) = true then
  if (u3_5 == (0 : Int)) = true then
   if ((u3_0.size : Int) == (u3_1.size : Int)) = true then
    if ((u3_6.length : Int) != (u3_7.length : Int)) = true then
     some false
    else
     l4 u3_0 u3_1 u3_2 u3_3 u3_6 u3_7
   else
    l7 u3_0 u3_1 u3_2 u3_3
  else
   l7 u3_0 u3_1 u3_2 u3_3
  else
  l7 u3_0 u3_1 u3_2 u3_3
def m_ticketlinelaw05_KeysHolds_l3 (N : Nat) (u3_0 : ByteArray) (u3_1 : ByteArray) (u3_2 : ByteArray) (u3_3 : Int) (u3_4 : Int) (u3_5 : Int) (u3_6 : (List Int)) (u3_7 : (List Int)) : Option Bool := m_ticketlinelaw05_KeysHolds_l3_b (m_ticketlinelaw05_KeysHolds_l4 N) (m_ticketlinelaw05_KeysHolds_l7 N) u3_0 u3_1 u3_2 u3_3 u3_4 u3_5 u3_6 u3_7
def m_ticketlinelaw05_KeysHolds_l2_b (l3 : (ByteArray → ByteArray → ByteArray → Int → Int → Int → (List Int) → (List Int) → Option Bool)) (u2_0 : ByteArray) (u2_1 : ByteArray) (u2_2 : ByteArray) (u2_3 : Int) (u2_4 : Int) (u2_5 : Int) (u2_6 : (List Int)) (u2_7 : (List Int)) : Option Bool :=
  Option.bind (m_keys_ValidValue u2_0) fun r22 =>
  if (!((u2_4 == (0 : Int)) == r22)) = true then
  some false
  else
  if (u2_4 == (0 : Int)) = true then
   Option.bind (m_keys_Words (u2_0.size : Int)) fun r26 =>
   if ((u2_6.length : Int) != r26) = true then
    some false
   else
    Option.bind (m_ticketlinelaw05_unpacks u2_6 (u2_0.size : Int) u2_0 (0 : Int)) fun r28 =>
    if (!r28) = true then
     some false
    else
     l3 u2_0 u2_1 u2_2 u2_3 u2_4 u2_5 u2_6 u2_7
  else
   l3 u2_0 u2_1 u2_2 u2_3 u2_4 u2_5 u2_6 u2_7
def m_ticketlinelaw05_KeysHolds_l2 (N : Nat) (u2_0 : ByteArray) (u2_1 : ByteArray) (u2_2 : ByteArray) (u2_3 : Int) (u2_4 : Int) (u2_5 : Int) (u2_6 : (List Int)) (u2_7 : (List Int)) : Option Bool := m_ticketlinelaw05_KeysHolds_l2_b (m_ticketlinelaw05_KeysHolds_l3 N) u2_0 u2_1 u2_2 u2_3 u2_4 u2_5 u2_6 u2_7
def m_ticketlinelaw05_KeysHolds_l1_b (l2 : (ByteArray → ByteArray → ByteArray → Int → Int → Int → (List Int) → (List Int) → Option Bool)) (u1_0 : ByteArray) (u1_1 : ByteArray) (u1_2 : ByteArray) (u1_3 : Int) (u1_4 : Int) (u1_5 : (List Int)) : Option Bool :=
  Option.bind (m_keys_Pack u1_1) fun r20 =>
  l2 u1_0 u1_1 u1_2 u1_3 u1_4 r20.2 u1_5 r20.1
def m_ticketlinelaw05_KeysHolds_l1 (N : Nat) (u1_0 : ByteArray) (u1_1 : ByteArray) (u1_2 : ByteArray) (u1_3 : Int) (u1_4 : Int) (u1_5 : (List Int)) : Option Bool := m_ticketlinelaw05_KeysHolds_l1_b (m_ticketlinelaw05_KeysHolds_l2 N) u1_0 u1_1 u1_2 u1_3 u1_4 u1_5
def m_ticketlinelaw05_KeysHolds_l0_b (l1 : (ByteArray → ByteArray → ByteArray → Int → Int → (List Int) → Option Bool)) (u0_0 : ByteArray) (u0_1 : ByteArray) (u0_2 : ByteArray) (u0_3 : Int) : Option Bool :=
  Option.bind (m_keys_Pack u0_0) fun r19 =>
  l1 u0_0 u0_1 u0_2 u0_3 r19.2 r19.1
def m_ticketlinelaw05_KeysHolds_l0 (N : Nat) (u0_0 : ByteArray) (u0_1 : ByteArray) (u0_2 : ByteArray) (u0_3 : Int) : Option Bool := m_ticketlinelaw05_KeysHolds_l0_b (m_ticketlinelaw05_KeysHolds_l1 N) u0_0 u0_1 u0_2 u0_3
def m_ticketlinelaw05_KeysHolds_a (l0 : (ByteArray → ByteArray → ByteArray → Int → Option Bool)) (x0 : ByteArray) (x1 : ByteArray) (x2 : ByteArray) : Option Bool :=
  if (decide ((x0.size : Int) > (100 : Int))) = true then
  Option.bind (m_ticketlinelaw05_known) fun r2 =>
  some r2
  else
  if (decide ((x1.size : Int) > (100 : Int))) = true then
   Option.bind (m_ticketlinelaw05_known) fun r4 =>
   some r4
  else
   if (decide ((x2.size : Int) > (100 : Int))) = true then
    Option.bind (m_ticketlinelaw05_known) fun r6 =>
    some r6
   else
    Option.bind (m_keys_Compare x0 x1) fun r7 =>
    Option.bind (m_keys_Compare x1 x0) fun r8 =>
    if (r7 != (IntKind.i64.wrap ((0 : Int) - r8))) = true then
     some false
    else
     if (decide (r7 < (-1 : Int))) = true then
      some false
     else
      if (decide (r7 > (1 : Int))) = true then
       some false
      else
       if (!((r7 == (0 : Int)) == (strEq x0 x1))) = true then
        some false
       else
        if (decide (r7 ≤ (0 : Int))) = true then
         Option.bind (m_keys_Compare x1 x2) fun r15 =>
         if (decide (r15 ≤ (0 : Int))) = true then
          Option.bind (m_keys_Compare x0 x2) fun r17 =>
          if (decide (r17 > (0 : Int))) = true then
           some false
          else
           l0 x0 x1 x2 r7
         else
          l0 x0 x1 x2 r7
        else
         l0 x0 x1 x2 r7
def m_ticketlinelaw05_KeysHolds (x0 : ByteArray) (x1 : ByteArray) (x2 : ByteArray) : Option Bool := m_ticketlinelaw05_KeysHolds_a (m_ticketlinelaw05_KeysHolds_l0 FUEL) x0 x1 x2
end Go.Ev.M
