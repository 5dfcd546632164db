/- A part of the proof of a statement of this seat: the plain models of the functions. No condition. -/
import Derived.Test.YtbmdoalneeeonabEvC
set_option linter.unusedVariables false
namespace Go.Ev.M
open Go Go.Ev
def m_keys_Words (x0 : Int) : Option Int :=
  if (decide (x0 ≤ (0 : Int))) = true then
  some (0 : Int)
  else
  some (IntKind.i64.wrap ((IntKind.i64.wrap (Int.tdiv (IntKind.i64.wrap (x0 - (1 : Int))) (8 : Int))) + (1 : Int)))
def m_ticketlineref14_put_l0_b (s0 : (Int → (List Int) → Int → (List Int) → Option (List Int))) (u0_0 : Int) (u0_1 : (List Int)) (u0_2 : Int) (u0_3 : (List Int)) : Option (List Int) :=
  if (decide (u0_2 < (u0_1.length : Int))) = true then
  let v3 := (IntKind.i64.wrap (u0_0 + u0_2))
  if (0 : Int) ≤ u0_2 then
   if u0_2 < (u0_1.length : Int) then
    if (0 : Int) ≤ v3 then
     if v3 < (128 : Int) then
      s0 u0_0 u0_1 (IntKind.i64.wrap (u0_2 + (1 : Int))) (List.set u0_3 v3.toNat (rd (.int .u64) u0_1 u0_2))
     else none
    else none
   else none
  else none
  else
  some u0_3
def m_ticketlineref14_put_l0 (N : Nat) : Nat → Int → (List Int) → Int → (List Int) → Option (List Int)
  | 0, _, _, _, _ => none
  | n + 1, u0_0, u0_1, u0_2, u0_3 => m_ticketlineref14_put_l0_b (m_ticketlineref14_put_l0 N n) u0_0 u0_1 u0_2 u0_3
def m_ticketlineref14_put_a (l0 : (Int → (List Int) → Int → (List Int) → Option (List Int))) (x0 : (List Int)) (x1 : Int) (x2 : (List Int)) : Option (List Int) :=
  l0 x1 x2 (0 : Int) x0
def m_ticketlineref14_put (x0 : (List Int)) (x1 : Int) (x2 : (List Int)) : Option (List Int) := m_ticketlineref14_put_a (m_ticketlineref14_put_l0 FUEL FUEL) x0 x1 x2
def m_ticketlineref14_Words (x0 : Int) : Option Int :=
  some (IntKind.i64.wrap (Int.tdiv (IntKind.i64.wrap (x0 + (7 : Int))) (8 : Int)))
def m_ticketlineref14_Pack_l0_b (s0 : (ByteArray → Int → (List Int) → Option (List Int))) (u0_0 : ByteArray) (u0_1 : Int) (u0_2 : (List Int)) : Option (List Int) :=
  if (decide (u0_1 < (IntKind.i64.wrap ((8 : Int) * (u0_2.length : Int))))) = true then
  if (decide (u0_1 < (u0_0.size : Int))) = true then
   if (0 : Int) ≤ u0_1 then
    if u0_1 < (u0_0.size : Int) then
     let v9 := (IntKind.i64.wrap (Int.tdiv u0_1 (8 : Int)))
     let v10 := (IntKind.i64.wrap (Int.tdiv u0_1 (8 : Int)))
     if (0 : Int) ≤ v10 then
      if v10 < (u0_2.length : Int) then
       if (0 : Int) ≤ v9 then
        if v9 < (u0_2.length : Int) then
         s0 u0_0 (IntKind.i64.wrap (u0_1 + (1 : Int))) (List.set u0_2 v9.toNat (IntKind.u64.wrap ((IntKind.u64.wrap ((256 : Int) * (rd (.int .u64) u0_2 v10))) + (IntKind.u64.wrap (bt u0_0 u0_1)))))
        else none
       else none
      else none
     else none
    else none
   else none
  else
   let v16 := (IntKind.i64.wrap (Int.tdiv u0_1 (8 : Int)))
   let v17 := (IntKind.i64.wrap (Int.tdiv u0_1 (8 : Int)))
   if (0 : Int) ≤ v17 then
    if v17 < (u0_2.length : Int) then
     if (0 : Int) ≤ v16 then
      if v16 < (u0_2.length : Int) then
       s0 u0_0 (IntKind.i64.wrap (u0_1 + (1 : Int))) (List.set u0_2 v16.toNat (IntKind.u64.wrap ((IntKind.u64.wrap ((256 : Int) * (rd (.int .u64) u0_2 v17))) + (0 : Int))))
      else none
     else none
    else none
   else none
  else
  some u0_2
def m_ticketlineref14_Pack_l0 (N : Nat) : Nat → ByteArray → Int → (List Int) → Option (List Int)
  | 0, _, _, _ => none
  | n + 1, u0_0, u0_1, u0_2 => m_ticketlineref14_Pack_l0_b (m_ticketlineref14_Pack_l0 N n) u0_0 u0_1 u0_2
def m_ticketlineref14_Pack_a (l0 : (ByteArray → Int → (List Int) → Option (List Int))) (x0 : ByteArray) : Option (List Int) :=
  Option.bind (m_ticketlineref14_Words (x0.size : Int)) fun r1 =>
  if (0 : Int) ≤ r1 then
  if r1 ≤ r1 then
   if fits r1.toNat 8 then
    l0 x0 (0 : Int) (List.replicate r1.toNat (0 : Int))
   else none
  else none
  else none
def m_ticketlineref14_Pack (x0 : ByteArray) : Option (List Int) := m_ticketlineref14_Pack_a (m_ticketlineref14_Pack_l0 FUEL FUEL) x0
def m_ticketlineref14_Empty (x0 : Int) (x1 : ByteArray) (x2 : ByteArray) : Option (List Int) :=
  Option.bind (m_ticketlineref14_Pack x1) fun r11 =>
  Option.bind (m_ticketlineref14_put (List.set (List.set (List.set (List.set (List.replicate 128 (0 : Int)) 8 (IntKind.u64.wrap (IntKind.i64.wrap ((1 : Int) + x0)))) 11 (128 : Int)) 12 (IntKind.u64.wrap (x1.size : Int))) 16 (IntKind.u64.wrap (x2.size : Int))) (13 : Int) r11) fun r12 =>
  Option.bind (m_ticketlineref14_Pack x2) fun r13 =>
  Option.bind (m_ticketlineref14_put r12 (17 : Int) r13) fun r14 =>
  some r14
def m_keys_Unpack_l1_b (s0 : (Int → (List Int) → Int → Int → (List Int) → Option (ByteArray × Int))) (s1 : (Int → Int → Int → (List Int) → Int → Int → (List Int) → Option (ByteArray × Int))) (u1_0 : Int) (u1_1 : Int) (u1_2 : Int) (u1_3 : (List Int)) (u1_4 : Int) (u1_5 : Int) (u1_6 : (List Int)) : Option (ByteArray × Int) :=
  if (decide (u1_2 ≥ (0 : Int))) = true then
  let v9 := (IntKind.i64.wrap ((8 : Int) * u1_2))
  if (0 : Int) ≤ v9 then
   let v12 := ([(IntKind.u8.wrap (shrI .u64 u1_1 v9))] : List Int)
   if fits (List.length u1_6 + List.length v12) 1 then
    s1 u1_0 u1_1 (IntKind.i64.wrap (u1_2 - (1 : Int))) u1_3 u1_4 u1_5 (u1_6 ++ v12)
   else none
  else none
  else
  s0 u1_0 u1_3 u1_4 (IntKind.i64.wrap (u1_5 + (1 : Int))) u1_6
def m_keys_Unpack_l1 (N : Nat) (s0 : (Int → (List Int) → Int → Int → (List Int) → Option (ByteArray × Int))) : Nat → Int → Int → Int → (List Int) → Int → Int → (List Int) → Option (ByteArray × Int)
  | 0, _, _, _, _, _, _, _ => none
  | n + 1, u1_0, u1_1, u1_2, u1_3, u1_4, u1_5, u1_6 => m_keys_Unpack_l1_b s0 (m_keys_Unpack_l1 N s0 n) u1_0 u1_1 u1_2 u1_3 u1_4 u1_5 u1_6
def m_keys_Unpack_l2_b (s2 : (Int → Int → Int → Int → Int → (List Int) → Option (ByteArray × Int))) (u2_0 : Int) (u2_1 : Int) (u2_2 : Int) (u2_3 : Int) (u2_4 : Int) (u2_5 : (List Int)) : Option (ByteArray × Int) :=
  if (decide (u2_4 < u2_3)) = true then
  if (0 : Int) ≤ u2_4 then
   if u2_4 < u2_2 then
    if ((rd (.int .u8) u2_5 (u2_1 + u2_4)) != (0 : Int)) = true then
     some ((⟨#[]⟩ : ByteArray), (12 : Int))
    else
     s2 u2_0 u2_1 u2_2 u2_3 (IntKind.i64.wrap (u2_4 + (1 : Int))) u2_5
   else none
  else none
  else
  if (0 : Int) ≤ u2_0 then
   if u2_0 ≤ (u2_5.length : Int) then
    if (0 : Int) ≤ u2_0 then
     some ((strOf (win u2_5 (0 : Int) (u2_0 - (0 : Int)))), (0 : Int))
    else none
   else none
  else none
def m_keys_Unpack_l2 (N : Nat) : Nat → Int → Int → Int → Int → Int → (List Int) → Option (ByteArray × Int)
  | 0, _, _, _, _, _, _ => none
  | n + 1, u2_0, u2_1, u2_2, u2_3, u2_4, u2_5 => m_keys_Unpack_l2_b (m_keys_Unpack_l2 N n) u2_0 u2_1 u2_2 u2_3 u2_4 u2_5
def m_keys_Unpack_l0_b (s0 : (Int → (List Int) → Int → Int → (List Int) → Option (ByteArray × Int))) (l1 : (Int → Int → Int → (List Int) → Int → Int → (List Int) → Option (ByteArray × Int))) (l2 : (Int → Int → Int → Int → Int → (List Int) → Option (ByteArray × Int))) (u0_0 : Int) (u0_1 : (List Int)) (u0_2 : Int) (u0_3 : Int) (u0_4 : (List Int)) : Option (ByteArray × Int) :=
  if (decide (u0_3 < u0_2)) = true then
  if (0 : Int) ≤ u0_3 then
   if u0_3 < (u0_1.length : Int) then
    l1 u0_0 (rd (.int .u64) u0_1 u0_3) (7 : Int) u0_1 u0_2 u0_3 u0_4
   else none
  else none
  else
  if (0 : Int) ≤ (u0_4.length : Int) then
   if (u0_4.length : Int) ≤ (u0_4.length : Int) then
    if (0 : Int) ≤ u0_0 then
     if u0_0 ≤ (u0_4.length : Int) then
      let v15 := ((u0_4.length : Int) - u0_0)
      l2 u0_0 u0_0 v15 v15 (0 : Int) u0_4
     else none
    else none
   else none
  else none
def m_keys_Unpack_l0 (N : Nat) : Nat → Int → (List Int) → Int → Int → (List Int) → Option (ByteArray × Int)
  | 0, _, _, _, _, _ => none
  | n + 1, u0_0, u0_1, u0_2, u0_3, u0_4 => m_keys_Unpack_l0_b (m_keys_Unpack_l0 N n) (m_keys_Unpack_l1 N (m_keys_Unpack_l0 N n) N) (m_keys_Unpack_l2 N N) u0_0 u0_1 u0_2 u0_3 u0_4
def m_keys_Unpack_a (l0 : (Int → (List Int) → Int → Int → (List Int) → Option (ByteArray × Int))) (x0 : (List Int)) (x1 : Int) : Option (ByteArray × Int) :=
  if (decide (x1 < (0 : Int))) = true then
  some ((⟨#[]⟩ : ByteArray), (2 : Int))
  else
  if (decide (x1 > (40 : Int))) = true then
   some ((⟨#[]⟩ : ByteArray), (5 : Int))
  else
   Option.bind (m_keys_Words x1) fun r4 =>
   if ((x0.length : Int) != r4) = true then
    some ((⟨#[]⟩ : ByteArray), (12 : Int))
   else
    l0 x1 x0 (x0.length : Int) (0 : Int) ([] : List Int)
def m_keys_Unpack (x0 : (List Int)) (x1 : Int) : Option (ByteArray × Int) := m_keys_Unpack_a (m_keys_Unpack_l0 FUEL FUEL) x0 x1
def m_slot_fence_l0_b (s0 : ((List Int) → Int → Int → Int → (List Int) → Int → Int → Option (ByteArray × Int))) (u0_0 : (List Int)) (u0_1 : Int) (u0_2 : Int) (u0_3 : Int) (u0_4 : (List Int)) (u0_5 : Int) (u0_6 : Int) : Option (ByteArray × Int) :=
  if (decide (u0_6 < u0_5)) = true then
  if (0 : Int) ≤ u0_6 then
   if u0_6 < (u0_4.length : Int) then
    if ((rd (.int .u64) u0_4 u0_6) != (0 : Int)) = true then
     some ((⟨#[]⟩ : ByteArray), (12 : Int))
    else
     s0 u0_0 u0_1 u0_2 u0_3 u0_4 u0_5 (IntKind.i64.wrap (u0_6 + (1 : Int)))
   else none
  else none
  else
  let v15 := (IntKind.i64.wrap (u0_1 + (1 : Int)))
  if (0 : Int) ≤ u0_3 then
   if u0_3 ≤ (128 : Int) then
    if (0 : Int) ≤ v15 then
     if v15 ≤ u0_3 then
      Option.bind (m_keys_Unpack (win u0_0 v15 (u0_3 - v15)) u0_2) fun r17 =>
      some (r17.1, r17.2)
     else none
    else none
   else none
  else none
def m_slot_fence_l0 (N : Nat) : Nat → (List Int) → Int → Int → Int → (List Int) → Int → Int → Option (ByteArray × Int)
  | 0, _, _, _, _, _, _, _ => none
  | n + 1, u0_0, u0_1, u0_2, u0_3, u0_4, u0_5, u0_6 => m_slot_fence_l0_b (m_slot_fence_l0 N n) u0_0 u0_1 u0_2 u0_3 u0_4 u0_5 u0_6
def m_slot_fence_a (l0 : ((List Int) → Int → Int → Int → (List Int) → Int → Int → Option (ByteArray × Int))) (x0 : (List Int)) (x1 : Int) : Option (ByteArray × Int) :=
  if (0 : Int) ≤ x1 then
  if x1 < (128 : Int) then
   if (decide ((rd (.int .u64) x0 x1) > (24 : Int))) = true then
    some ((⟨#[]⟩ : ByteArray), (12 : Int))
   else
    if (0 : Int) ≤ x1 then
     if x1 < (128 : Int) then
      let v4 := (IntKind.i64.wrap (rd (.int .u64) x0 x1))
      Option.bind (m_keys_Words v4) fun r6 =>
      let v7 := (IntKind.i64.wrap ((IntKind.i64.wrap (x1 + (1 : Int))) + r6))
      let v8 := (IntKind.i64.wrap (x1 + (4 : Int)))
      if (0 : Int) ≤ v8 then
       if v8 ≤ (128 : Int) then
        if (0 : Int) ≤ v7 then
         if v7 ≤ v8 then
          let v9 := (win x0 v7 (v8 - v7))
          l0 x0 x1 v4 v7 v9 (v9.length : Int) (0 : Int)
         else none
        else none
       else none
      else none
     else none
    else none
  else none
  else none
def m_slot_fence (x0 : (List Int)) (x1 : Int) : Option (ByteArray × Int) := m_slot_fence_a (m_slot_fence_l0 FUEL FUEL) x0 x1
def m_slot_head (x0 : (List Int)) : Option Bool :=
  if (decide ((rd (.int .u64) x0 (8 : Int)) < (1 : Int))) = true then
  some false
  else
  if (decide ((rd (.int .u64) x0 (8 : Int)) > (6 : Int))) = true then
   some false
  else
   if (decide ((rd (.int .u64) x0 (9 : Int)) > (108 : Int))) = true then
    some false
   else
    if (decide ((rd (.int .u64) x0 (10 : Int)) > (511 : Int))) = true then
     some false
    else
     if (decide ((rd (.int .u64) x0 (11 : Int)) > (128 : Int))) = true then
      some false
     else
      if (decide ((rd (.int .u64) x0 (11 : Int)) < (IntKind.u64.wrap ((20 : Int) + (rd (.int .u64) x0 (9 : Int)))))) = true then
       some false
      else
       Option.bind (m_slot_fence x0 (12 : Int)) fun r15 =>
       Option.bind (m_slot_fence x0 (16 : Int)) fun r16 =>
       if (r15.2 == (0 : Int)) = true then
        some (r16.2 == (0 : Int))
       else
        some false
def m_slot_entryOf (x0 : Int) : Option (Int × (Int × (Int × (Int × (Int × Unit))))) :=
  let v2 := (IntKind.i64.wrap (shrI .u64 x0 (16 : Int)))
  let v5 := (IntKind.i64.wrap (band .u64 (shrI .u64 x0 (8 : Int)) (255 : Int)))
  let v7 := (IntKind.i64.wrap (band .u64 x0 (255 : Int)))
  Option.bind (m_keys_Words v5) fun r8 =>
  let v9 := (IntKind.i64.wrap (v2 + r8))
  Option.bind (m_keys_Words v7) fun r10 =>
  some (v2, (v9, ((IntKind.i64.wrap (v9 + r10)), (v5, (v7, ())))))
def m_slot_sized (x0 : (List Int)) (x1 : Int) : Option Bool :=
  let v1 := (IntKind.i64.wrap ((20 : Int) + x1))
  if (0 : Int) ≤ v1 then
  if v1 < (128 : Int) then
   let v2 := (rd (.int .u64) x0 v1)
   if (decide ((shrI .u64 v2 (16 : Int)) ≥ (128 : Int))) = true then
    some false
   else
    Option.bind (m_slot_entryOf v2) fun r5 =>
    let v7 := ((rd (.int .u64) x0 (8 : Int)) == (1 : Int))
    if (decide (r5.2.2.2.1 > (24 : Int))) = true then
     some false
    else
     if (r5.2.2.2.1 == (0 : Int)) = true then
      if v7 = true then
       some false
      else
       if (decide (x1 > (0 : Int))) = true then
        some false
       else
        if v7 = true then
         if (decide (r5.2.2.2.2.1 > (40 : Int))) = true then
          some false
         else
          if (!v7) = true then
           if (r5.2.2.2.2.1 != (8 : Int)) = true then
            some false
           else
            if (decide ((IntKind.u64.wrap r5.1) ≥ (rd (.int .u64) x0 (11 : Int)))) = true then
             some (decide (r5.2.2.1 ≤ (128 : Int)))
            else
             some false
          else
           if (decide ((IntKind.u64.wrap r5.1) ≥ (rd (.int .u64) x0 (11 : Int)))) = true then
            some (decide (r5.2.2.1 ≤ (128 : Int)))
           else
            some false
        else
         if (!v7) = true then
          if (r5.2.2.2.2.1 != (8 : Int)) = true then
           some false
          else
           if (decide ((IntKind.u64.wrap r5.1) ≥ (rd (.int .u64) x0 (11 : Int)))) = true then
            some (decide (r5.2.2.1 ≤ (128 : Int)))
           else
            some false
         else
          if (decide ((IntKind.u64.wrap r5.1) ≥ (rd (.int .u64) x0 (11 : Int)))) = true then
           some (decide (r5.2.2.1 ≤ (128 : Int)))
          else
           some false
     else
      if v7 = true then
       if (decide (r5.2.2.2.2.1 > (40 : Int))) = true then
        some false
       else
        if (!v7) = true then
         if (r5.2.2.2.2.1 != (8 : Int)) = true then
          some false
         else
          if (decide ((IntKind.u64.wrap r5.1) ≥ (rd (.int .u64) x0 (11 : Int)))) = true then
           some (decide (r5.2.2.1 ≤ (128 : Int)))
          else
           some false
        else
         if (decide ((IntKind.u64.wrap r5.1) ≥ (rd (.int .u64) x0 (11 : Int)))) = true then
          some (decide (r5.2.2.1 ≤ (128 : Int)))
         else
          some false
      else
       if (!v7) = true then
        if (r5.2.2.2.2.1 != (8 : Int)) = true then
         some false
        else
         if (decide ((IntKind.u64.wrap r5.1) ≥ (rd (.int .u64) x0 (11 : Int)))) = true then
          some (decide (r5.2.2.1 ≤ (128 : Int)))
         else
          some false
       else
        if (decide ((IntKind.u64.wrap r5.1) ≥ (rd (.int .u64) x0 (11 : Int)))) = true then
         some (decide (r5.2.2.1 ≤ (128 : Int)))
        else
         some false
  else none
  else none
def m_slot_text (x0 : (List Int)) (x1 : (Int × (Int × (Int × (Int × (Int × Unit)))))) : Option ((ByteArray × (ByteArray × Unit)) × Int) :=
  if (0 : Int) ≤ x1.2.1 then
  if x1.2.1 ≤ (128 : Int) then
   if (0 : Int) ≤ x1.1 then
    if x1.1 ≤ x1.2.1 then
     Option.bind (m_keys_Unpack (win x0 x1.1 (x1.2.1 - x1.1)) x1.2.2.2.1) fun r2 =>
     if (r2.2 != (0 : Int)) = true then
      some (((⟨#[]⟩ : ByteArray), ((⟨#[]⟩ : ByteArray), ())), r2.2)
     else
      if (0 : Int) ≤ x1.2.2.1 then
       if x1.2.2.1 ≤ (128 : Int) then
        if (0 : Int) ≤ x1.2.1 then
         if x1.2.1 ≤ x1.2.2.1 then
          Option.bind (m_keys_Unpack (win x0 x1.2.1 (x1.2.2.1 - x1.2.1)) x1.2.2.2.2.1) fun r5 =>
          some ((r2.1, (r5.1, ())), r5.2)
         else none
        else none
       else none
      else none
    else none
   else none
  else none
  else none
def m_slot_list_l1_b (s0 : ((List Int) → Int → Int → (List Bool) → (List (ByteArray × (ByteArray × Unit))) → Option ((List (ByteArray × (ByteArray × Unit))) × Bool))) (s1 : ((List Int) → Int → Int → Int → (List (ByteArray × (ByteArray × Unit))) → (List Bool) → Int → Int → Int → Int → Int → ByteArray → ByteArray → Option ((List (ByteArray × (ByteArray × Unit))) × Bool))) (u1_0 : (List Int)) (u1_1 : Int) (u1_2 : Int) (u1_3 : Int) (u1_4 : (List (ByteArray × (ByteArray × Unit)))) (u1_5 : (List Bool)) (u1_6 : Int) (u1_7 : Int) (u1_8 : Int) (u1_9 : Int) (u1_10 : Int) (u1_11 : ByteArray) (u1_12 : ByteArray) : Option ((List (ByteArray × (ByteArray × Unit))) × Bool) :=
  if (decide (u1_1 < u1_8)) = true then
  if (0 : Int) ≤ u1_1 then
   if u1_1 < (128 : Int) then
    if (rd .bool u1_5 u1_1) = true then
     some (([] : List (ByteArray × (ByteArray × Unit))), false)
    else
     if (0 : Int) ≤ u1_1 then
      if u1_1 < (128 : Int) then
       s1 u1_0 (IntKind.i64.wrap (u1_1 + (1 : Int))) u1_2 u1_3 u1_4 (List.set u1_5 u1_1.toNat true) u1_6 u1_7 u1_8 u1_9 u1_10 u1_11 u1_12
      else none
     else none
   else none
  else none
  else
  let v22 := ([(u1_11, (u1_12, ()))] : List (ByteArray × (ByteArray × Unit)))
  if fits (List.length u1_4 + List.length v22) 32 then
   s0 u1_0 u1_2 (IntKind.i64.wrap (u1_3 + (1 : Int))) u1_5 (u1_4 ++ v22)
  else none
def m_slot_list_l1 (N : Nat) (s0 : ((List Int) → Int → Int → (List Bool) → (List (ByteArray × (ByteArray × Unit))) → Option ((List (ByteArray × (ByteArray × Unit))) × Bool))) : Nat → (List Int) → Int → Int → Int → (List (ByteArray × (ByteArray × Unit))) → (List Bool) → Int → Int → Int → Int → Int → ByteArray → ByteArray → Option ((List (ByteArray × (ByteArray × Unit))) × Bool)
  | 0, _, _, _, _, _, _, _, _, _, _, _, _, _ => none
  | n + 1, u1_0, u1_1, u1_2, u1_3, u1_4, u1_5, u1_6, u1_7, u1_8, u1_9, u1_10, u1_11, u1_12 => m_slot_list_l1_b s0 (m_slot_list_l1 N s0 n) u1_0 u1_1 u1_2 u1_3 u1_4 u1_5 u1_6 u1_7 u1_8 u1_9 u1_10 u1_11 u1_12
def m_slot_list_l0_b (s0 : ((List Int) → Int → Int → (List Bool) → (List (ByteArray × (ByteArray × Unit))) → Option ((List (ByteArray × (ByteArray × Unit))) × Bool))) (l1 : ((List Int) → Int → Int → Int → (List (ByteArray × (ByteArray × Unit))) → (List Bool) → Int → Int → Int → Int → Int → ByteArray → ByteArray → Option ((List (ByteArray × (ByteArray × Unit))) × Bool))) (u0_0 : (List Int)) (u0_1 : Int) (u0_2 : Int) (u0_3 : (List Bool)) (u0_4 : (List (ByteArray × (ByteArray × Unit)))) : Option ((List (ByteArray × (ByteArray × Unit))) × Bool) :=
  if (decide (u0_2 < u0_1)) = true then
  Option.bind (m_slot_sized u0_0 u0_2) fun r6 =>
  if (!r6) = true then
   some (([] : List (ByteArray × (ByteArray × Unit))), false)
  else
   let v7 := (IntKind.i64.wrap ((20 : Int) + u0_2))
   if (0 : Int) ≤ v7 then
    if v7 < (128 : Int) then
     Option.bind (m_slot_entryOf (rd (.int .u64) u0_0 v7)) fun r9 =>
     Option.bind (m_slot_text u0_0 r9) fun r10 =>
     if (r10.2 != (0 : Int)) = true then
      some (([] : List (ByteArray × (ByteArray × Unit))), false)
     else
      if (decide ((rd (.int .u64) u0_0 (8 : Int)) > (1 : Int))) = true then
       if (0 : Int) ≤ r9.2.1 then
        if r9.2.1 < (128 : Int) then
         if (decide ((rd (.int .u64) u0_0 r9.2.1) < (1 : Int))) = true then
          some (([] : List (ByteArray × (ByteArray × Unit))), false)
         else
          if (0 : Int) ≤ r9.2.1 then
           if r9.2.1 < (128 : Int) then
            if (decide ((rd (.int .u64) u0_0 r9.2.1) > (511 : Int))) = true then
             some (([] : List (ByteArray × (ByteArray × Unit))), false)
            else
             l1 u0_0 r9.1 u0_1 u0_2 u0_4 u0_3 r9.1 r9.2.1 r9.2.2.1 r9.2.2.2.1 r9.2.2.2.2.1 r10.1.1 r10.1.2.1
           else none
          else none
        else none
       else none
      else
       l1 u0_0 r9.1 u0_1 u0_2 u0_4 u0_3 r9.1 r9.2.1 r9.2.2.1 r9.2.2.2.1 r9.2.2.2.2.1 r10.1.1 r10.1.2.1
    else none
   else none
  else
  some (u0_4, true)
def m_slot_list_l0 (N : Nat) : Nat → (List Int) → Int → Int → (List Bool) → (List (ByteArray × (ByteArray × Unit))) → Option ((List (ByteArray × (ByteArray × Unit))) × Bool)
  | 0, _, _, _, _, _ => none
  | n + 1, u0_0, u0_1, u0_2, u0_3, u0_4 => m_slot_list_l0_b (m_slot_list_l0 N n) (m_slot_list_l1 N (m_slot_list_l0 N n) N) u0_0 u0_1 u0_2 u0_3 u0_4
def m_slot_list_a (l0 : ((List Int) → Int → Int → (List Bool) → (List (ByteArray × (ByteArray × Unit))) → Option ((List (ByteArray × (ByteArray × Unit))) × Bool))) (x0 : (List Int)) : Option ((List (ByteArray × (ByteArray × Unit))) × Bool) :=
  Option.bind (m_slot_head x0) fun r1 =>
  if (!r1) = true then
  some (([] : List (ByteArray × (ByteArray × Unit))), false)
  else
  l0 x0 (IntKind.i64.wrap (rd (.int .u64) x0 (9 : Int))) (0 : Int) (List.replicate 128 false) ([] : List (ByteArray × (ByteArray × Unit)))
def m_slot_list (x0 : (List Int)) : Option ((List (ByteArray × (ByteArray × Unit))) × Bool) := m_slot_list_a (m_slot_list_l0 FUEL FUEL) x0
def m_slot_Valid (x0 : (List Int)) : Option Bool :=
  Option.bind (m_slot_list x0) fun r1 =>
  some r1.2
end Go.Ev.M
