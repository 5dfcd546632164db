/- A part of the proof of a statement of this seat: the plain models of the functions. No condition. -/
import Derived.Test.YtmageoiakgcgmaaEvC
set_option linter.unusedVariables false
namespace Go.Ev.M
open Go Go.Ev
def m_keys_Words (x0 : Int) : Option Int :=
  if (decide (x0 ≤ (0 : Int))) = true then
  some (0 : Int)
  else
  some (IntKind.i64.wrap ((IntKind.i64.wrap (Int.tdiv (IntKind.i64.wrap (x0 - (1 : Int))) (8 : Int))) + (1 : Int)))
def m_internal_bytealg_CompareString (x0 : ByteArray) (x1 : ByteArray) : Option Int :=
  Option.bind (cmpS x0 x1) fun r1 =>
  some r1
def m_strings_Compare (x0 : ByteArray) (x1 : ByteArray) : Option Int :=
  Option.bind (m_internal_bytealg_CompareString x0 x1) fun r1 =>
  some r1
def m_keys_Compare (x0 : ByteArray) (x1 : ByteArray) : Option Int :=
  Option.bind (m_strings_Compare x0 x1) fun r1 =>
  some r1
def m_keys_ValidValue (x0 : ByteArray) : Option Bool :=
  some (decide ((x0.size : Int) ≤ (40 : Int)))
def m_keys_Pack_l1_b (s0 : (ByteArray → Int → Int → (List Int) → Option ((List Int) × Int))) (s1 : (ByteArray → Int → Int → Int → Int → Int → (List Int) → Option ((List Int) × Int))) (u1_0 : ByteArray) (u1_1 : Int) (u1_2 : Int) (u1_3 : Int) (u1_4 : Int) (u1_5 : Int) (u1_6 : (List Int)) : Option ((List Int) × Int) :=
  if (decide (u1_5 < (8 : Int))) = true then
  let v5 := (shlI .u64 u1_2 (8 : Int))
  let v7 := (IntKind.i64.wrap ((IntKind.i64.wrap (u1_1 * (8 : Int))) + u1_5))
  if (decide (v7 < (u1_0.size : Int))) = true then
   if (0 : Int) ≤ v7 then
    if v7 < (u1_0.size : Int) then
     s1 u1_0 u1_1 (bor .u64 v5 (IntKind.u64.wrap (bt u1_0 v7))) u1_3 u1_4 (IntKind.i64.wrap (u1_5 + (1 : Int))) u1_6
    else none
   else none
  else
   s1 u1_0 u1_1 v5 u1_3 u1_4 (IntKind.i64.wrap (u1_5 + (1 : Int))) u1_6
  else
  let v14 := ([u1_2] : List Int)
  if fits (List.length u1_6 + List.length v14) 8 then
   s0 u1_0 u1_3 (IntKind.i64.wrap (u1_4 + (1 : Int))) (u1_6 ++ v14)
  else none
def m_keys_Pack_l1 (N : Nat) (s0 : (ByteArray → Int → Int → (List Int) → Option ((List Int) × Int))) : Nat → ByteArray → Int → Int → Int → Int → Int → (List Int) → Option ((List Int) × Int)
  | 0, _, _, _, _, _, _, _ => none
  | n + 1, u1_0, u1_1, u1_2, u1_3, u1_4, u1_5, u1_6 => m_keys_Pack_l1_b s0 (m_keys_Pack_l1 N s0 n) u1_0 u1_1 u1_2 u1_3 u1_4 u1_5 u1_6
def m_keys_Pack_l0_b (s0 : (ByteArray → Int → Int → (List Int) → Option ((List Int) × Int))) (l1 : (ByteArray → Int → Int → Int → Int → Int → (List Int) → Option ((List Int) × Int))) (u0_0 : ByteArray) (u0_1 : Int) (u0_2 : Int) (u0_3 : (List Int)) : Option ((List Int) × Int) :=
  if (decide (u0_2 < u0_1)) = true then
  l1 u0_0 u0_2 (0 : Int) u0_1 u0_2 (0 : Int) u0_3
  else
  some (u0_3, (0 : Int))
def m_keys_Pack_l0 (N : Nat) : Nat → ByteArray → Int → Int → (List Int) → Option ((List Int) × Int)
  | 0, _, _, _, _ => none
  | n + 1, u0_0, u0_1, u0_2, u0_3 => m_keys_Pack_l0_b (m_keys_Pack_l0 N n) (m_keys_Pack_l1 N (m_keys_Pack_l0 N n) N) u0_0 u0_1 u0_2 u0_3
def m_keys_Pack_a (l0 : (ByteArray → Int → Int → (List Int) → Option ((List Int) × Int))) (x0 : ByteArray) : Option ((List Int) × Int) :=
  Option.bind (m_keys_ValidValue x0) fun r1 =>
  if (!r1) = true then
  some (([] : List Int), (5 : Int))
  else
  Option.bind (m_keys_Words (x0.size : Int)) fun r2 =>
  l0 x0 r2 (0 : Int) ([] : List Int)
def m_keys_Pack (x0 : ByteArray) : Option ((List Int) × Int) := m_keys_Pack_a (m_keys_Pack_l0 FUEL FUEL) x0
def m_keys_Unpack_l1_b (s0 : (Int → (List Int) → Int → Int → (List Int) → Option (ByteArray × Int))) (s1 : (Int → Int → Int → (List Int) → Int → Int → (List Int) → Option (ByteArray × Int))) (u1_0 : Int) (u1_1 : Int) (u1_2 : Int) (u1_3 : (List Int)) (u1_4 : Int) (u1_5 : Int) (u1_6 : (List Int)) : Option (ByteArray × Int) :=
  if (decide (u1_2 ≥ (0 : Int))) = true then
  let v9 := (IntKind.i64.wrap ((8 : Int) * u1_2))
  if (0 : Int) ≤ v9 then
   let v12 := ([(IntKind.u8.wrap (shrI .u64 u1_1 v9))] : List Int)
   if fits (List.length u1_6 + List.length v12) 1 then
    s1 u1_0 u1_1 (IntKind.i64.wrap (u1_2 - (1 : Int))) u1_3 u1_4 u1_5 (u1_6 ++ v12)
   else none
  else none
  else
  s0 u1_0 u1_3 u1_4 (IntKind.i64.wrap (u1_5 + (1 : Int))) u1_6
def m_keys_Unpack_l1 (N : Nat) (s0 : (Int → (List Int) → Int → Int → (List Int) → Option (ByteArray × Int))) : Nat → Int → Int → Int → (List Int) → Int → Int → (List Int) → Option (ByteArray × Int)
  | 0, _, _, _, _, _, _, _ => none
  | n + 1, u1_0, u1_1, u1_2, u1_3, u1_4, u1_5, u1_6 => m_keys_Unpack_l1_b s0 (m_keys_Unpack_l1 N s0 n) u1_0 u1_1 u1_2 u1_3 u1_4 u1_5 u1_6
def m_keys_Unpack_l2_b (s2 : (Int → Int → Int → Int → Int → (List Int) → Option (ByteArray × Int))) (u2_0 : Int) (u2_1 : Int) (u2_2 : Int) (u2_3 : Int) (u2_4 : Int) (u2_5 : (List Int)) : Option (ByteArray × Int) :=
  if (decide (u2_4 < u2_3)) = true then
  if (0 : Int) ≤ u2_4 then
   if u2_4 < u2_2 then
    if ((rd (.int .u8) u2_5 (u2_1 + u2_4)) != (0 : Int)) = true then
     some ((⟨#[]⟩ : ByteArray), (12 : Int))
    else
     s2 u2_0 u2_1 u2_2 u2_3 (IntKind.i64.wrap (u2_4 + (1 : Int))) u2_5
   else none
  else none
  else
  if (0 : Int) ≤ u2_0 then
   if u2_0 ≤ (u2_5.length : Int) then
    if (0 : Int) ≤ u2_0 then
     some ((strOf (win u2_5 (0 : Int) (u2_0 - (0 : Int)))), (0 : Int))
    else none
   else none
  else none
def m_keys_Unpack_l2 (N : Nat) : Nat → Int → Int → Int → Int → Int → (List Int) → Option (ByteArray × Int)
  | 0, _, _, _, _, _, _ => none
  | n + 1, u2_0, u2_1, u2_2, u2_3, u2_4, u2_5 => m_keys_Unpack_l2_b (m_keys_Unpack_l2 N n) u2_0 u2_1 u2_2 u2_3 u2_4 u2_5
def m_keys_Unpack_l0_b (s0 : (Int → (List Int) → Int → Int → (List Int) → Option (ByteArray × Int))) (l1 : (Int → Int → Int → (List Int) → Int → Int → (List Int) → Option (ByteArray × Int))) (l2 : (Int → Int → Int → Int → Int → (List Int) → Option (ByteArray × Int))) (u0_0 : Int) (u0_1 : (List Int)) (u0_2 : Int) (u0_3 : Int) (u0_4 : (List Int)) : Option (ByteArray × Int) :=
  if (decide (u0_3 < u0_2)) = true then
  if (0 : Int) ≤ u0_3 then
   if u0_3 < (u0_1.length : Int) then
    l1 u0_0 (rd (.int .u64) u0_1 u0_3) (7 : Int) u0_1 u0_2 u0_3 u0_4
   else none
  else none
  else
  if (0 : Int) ≤ (u0_4.length : Int) then
   if (u0_4.length : Int) ≤ (u0_4.length : Int) then
    if (0 : Int) ≤ u0_0 then
     if u0_0 ≤ (u0_4.length : Int) then
      let v15 := ((u0_4.length : Int) - u0_0)
      l2 u0_0 u0_0 v15 v15 (0 : Int) u0_4
     else none
    else none
   else none
  else none
def m_keys_Unpack_l0 (N : Nat) : Nat → Int → (List Int) → Int → Int → (List Int) → Option (ByteArray × Int)
  | 0, _, _, _, _, _ => none
  | n + 1, u0_0, u0_1, u0_2, u0_3, u0_4 => m_keys_Unpack_l0_b (m_keys_Unpack_l0 N n) (m_keys_Unpack_l1 N (m_keys_Unpack_l0 N n) N) (m_keys_Unpack_l2 N N) u0_0 u0_1 u0_2 u0_3 u0_4
def m_keys_Unpack_a (l0 : (Int → (List Int) → Int → Int → (List Int) → Option (ByteArray × Int))) (x0 : (List Int)) (x1 : Int) : Option (ByteArray × Int) :=
  if (decide (x1 < (0 : Int))) = true then
  some ((⟨#[]⟩ : ByteArray), (2 : Int))
  else
  if (decide (x1 > (40 : Int))) = true then
   some ((⟨#[]⟩ : ByteArray), (5 : Int))
  else
   Option.bind (m_keys_Words x1) fun r4 =>
   if ((x0.length : Int) != r4) = true then
    some ((⟨#[]⟩ : ByteArray), (12 : Int))
   else
    l0 x1 x0 (x0.length : Int) (0 : Int) ([] : List Int)
def m_keys_Unpack (x0 : (List Int)) (x1 : Int) : Option (ByteArray × Int) := m_keys_Unpack_a (m_keys_Unpack_l0 FUEL FUEL) x0 x1
end Go.Ev.M
