/- A part of the proof of a statement of this seat: the plain models of the functions. No condition. -/
import Derived.Test.YtbmdoalneeeonabM14
set_option linter.unusedVariables false
namespace Go.Ev.M
open Go Go.Ev
def m_arena_place (x0 : Int) (x1 : Int) : Option Int :=
  some (IntKind.i64.wrap ((IntKind.i64.wrap ((16 : Int) + (IntKind.i64.wrap ((128 : Int) * (IntKind.i64.wrap (x0 - (1 : Int))))))) + x1))
def m_mem_New (x0 : Int) : Option ((Option ((List Int) × Unit)) × Int) :=
  if (decide (x0 < (1 : Int))) = true then
  some (none, (2 : Int))
  else
  if (decide (x0 > (65536 : Int))) = true then
   some (none, (2 : Int))
  else
   if (0 : Int) ≤ x0 then
    if x0 ≤ x0 then
     if fits x0.toNat 8 then
      some ((some ((List.replicate x0.toNat (0 : Int)), ())), (0 : Int))
     else none
    else none
   else none
def m_slices_Clone_uint64_uint64 (x0 : (List Int)) : Option (List Int) :=
  if 0 < (List.length x0) then
  if fits (List.length ([] : List Int) + List.length x0) 8 then
   some (([] : List Int) ++ x0)
  else none
  else none
def m_mem_Mem_Copy (x0 : ((List Int) × Unit)) : Option (((List Int) × Unit) × ((List Int) × Unit)) :=
  if ((x0.1.length : Int) == (0 : Int)) = true then
  none
  else
  Option.bind (m_slices_Clone_uint64_uint64 x0.1) fun r3 =>
  some ((r3, ()), (x0.1, ()))
def m_mem_Mem_Do (x0 : ((List Int) × Unit)) (x1 : (Int × (Int × (Int × (Int × Unit))))) : Option ((Int × (Int × (Int × (Int × Unit)))) × Int × ((List Int) × Unit)) :=
  if ((x0.1.length : Int) == (0 : Int)) = true then
  some (((0 : Int), ((0 : Int), ((0 : Int), ((0 : Int), ())))), (1 : Int), (x0.1, ()))
  else
  if (decide (x1.1 < (1 : Int))) = true then
   some (((0 : Int), ((0 : Int), ((0 : Int), ((0 : Int), ())))), (2 : Int), (x0.1, ()))
  else
   if (decide (x1.1 > (4 : Int))) = true then
    some (((0 : Int), ((0 : Int), ((0 : Int), ((0 : Int), ())))), (2 : Int), (x0.1, ()))
   else
    if (decide (x1.2.1 < (0 : Int))) = true then
     some (((0 : Int), ((0 : Int), ((0 : Int), ((0 : Int), ())))), (3 : Int), (x0.1, ()))
    else
     if (decide (x1.2.1 ≥ (x0.1.length : Int))) = true then
      some (((0 : Int), ((0 : Int), ((0 : Int), ((0 : Int), ())))), (3 : Int), (x0.1, ()))
     else
      if (0 : Int) ≤ x1.2.1 then
       if x1.2.1 < (x0.1.length : Int) then
        let v8 := (rd (.int .u64) x0.1 x1.2.1)
        if (x1.1 == (2 : Int)) = true then
         if (0 : Int) ≤ x1.2.1 then
          if x1.2.1 < (x0.1.length : Int) then
           let v10 := (List.set x0.1 x1.2.1.toNat x1.2.2.2.1)
           if (0 : Int) ≤ x1.2.1 then
            if x1.2.1 < (v10.length : Int) then
             some ((x1.1, (x1.2.1, (v8, ((rd (.int .u64) v10 x1.2.1), ())))), (0 : Int), (v10, ()))
            else none
           else none
          else none
         else none
        else
         if (x1.1 == (4 : Int)) = true then
          if (0 : Int) ≤ x1.2.1 then
           if x1.2.1 < (x0.1.length : Int) then
            let v13 := (List.set x0.1 x1.2.1.toNat x1.2.2.2.1)
            if (0 : Int) ≤ x1.2.1 then
             if x1.2.1 < (v13.length : Int) then
              some ((x1.1, (x1.2.1, (v8, ((rd (.int .u64) v13 x1.2.1), ())))), (0 : Int), (v13, ()))
             else none
            else none
           else none
          else none
         else
          if (x1.1 == (3 : Int)) = true then
           if (v8 == x1.2.2.1) = true then
            if (0 : Int) ≤ x1.2.1 then
             if x1.2.1 < (x0.1.length : Int) then
              let v17 := (List.set x0.1 x1.2.1.toNat x1.2.2.2.1)
              if (0 : Int) ≤ x1.2.1 then
               if x1.2.1 < (v17.length : Int) then
                some ((x1.1, (x1.2.1, (v8, ((rd (.int .u64) v17 x1.2.1), ())))), (0 : Int), (v17, ()))
               else none
              else none
             else none
            else none
           else
            if (0 : Int) ≤ x1.2.1 then
             if x1.2.1 < (x0.1.length : Int) then
              some ((x1.1, (x1.2.1, (v8, ((rd (.int .u64) x0.1 x1.2.1), ())))), (0 : Int), (x0.1, ()))
             else none
            else none
          else
           if (0 : Int) ≤ x1.2.1 then
            if x1.2.1 < (x0.1.length : Int) then
             some ((x1.1, (x1.2.1, (v8, ((rd (.int .u64) x0.1 x1.2.1), ())))), (0 : Int), (x0.1, ()))
            else none
           else none
       else none
      else none
def m_mem_Mem_Store (x0 : ((List Int) × Unit)) (x1 : Int) (x2 : Int) : Option (Int × ((List Int) × Unit)) :=
  Option.bind (m_mem_Mem_Do (x0.1, ()) ((2 : Int), (x1, ((0 : Int), (x2, ()))))) fun r1 =>
  some (r1.2.1, (r1.2.2.1, ()))
def m_arena_Format_l1_b (s1 : (Int → Int → (List Int) → (List Int) → Option ((Option ((((List Int) × Unit) × Unit) × Unit)) × Int × ((List Int) × Unit)))) (u1_0 : Int) (u1_1 : Int) (u1_2 : (List Int)) (u1_3 : (List Int)) : Option ((Option ((((List Int) × Unit) × Unit) × Unit)) × Int × ((List Int) × Unit)) :=
  if (decide (u1_1 < u1_0)) = true then
  Option.bind (m_arena_place u1_1 (10 : Int)) fun r23 =>
  Option.bind (m_mem_Mem_Store (u1_3, ()) r23 (IntKind.u64.wrap (IntKind.i64.wrap (u1_1 + (1 : Int))))) fun r26 =>
  s1 u1_0 (IntKind.i64.wrap (u1_1 + (1 : Int))) u1_2 r26.2.1
  else
  some ((some (((u1_3, ()), ()), ())), (0 : Int), (u1_2, ()))
def m_arena_Format_l1 (N : Nat) : Nat → Int → Int → (List Int) → (List Int) → Option ((Option ((((List Int) × Unit) × Unit) × Unit)) × Int × ((List Int) × Unit))
  | 0, _, _, _, _ => none
  | n + 1, u1_0, u1_1, u1_2, u1_3 => m_arena_Format_l1_b (m_arena_Format_l1 N n) u1_0 u1_1 u1_2 u1_3
def m_arena_Format_l0_b (s0 : (Int → Int → Int → (List Int) → (List Int) → Option ((Option ((((List Int) × Unit) × Unit) × Unit)) × Int × ((List Int) × Unit)))) (l1 : (Int → Int → (List Int) → (List Int) → Option ((Option ((((List Int) × Unit) × Unit) × Unit)) × Int × ((List Int) × Unit)))) (u0_0 : Int) (u0_1 : Int) (u0_2 : Int) (u0_3 : (List Int)) (u0_4 : (List Int)) : Option ((Option ((((List Int) × Unit) × Unit) × Unit)) × Int × ((List Int) × Unit)) :=
  if (decide (u0_2 < u0_1)) = true then
  Option.bind (m_mem_Mem_Store (u0_4, ()) u0_2 (0 : Int)) fun r16 =>
  s0 u0_0 u0_1 (IntKind.i64.wrap (u0_2 + (1 : Int))) u0_3 r16.2.1
  else
  Option.bind (m_mem_Mem_Store (u0_4, ()) (0 : Int) (IntKind.u64.wrap u0_0)) fun r19 =>
  Option.bind (m_mem_Mem_Store (r19.2.1, ()) (1 : Int) (1 : Int)) fun r20 =>
  Option.bind (m_mem_Mem_Store (r20.2.1, ()) (4 : Int) (1 : Int)) fun r21 =>
  l1 u0_0 (1 : Int) u0_3 r21.2.1
def m_arena_Format_l0 (N : Nat) : Nat → Int → Int → Int → (List Int) → (List Int) → Option ((Option ((((List Int) × Unit) × Unit) × Unit)) × Int × ((List Int) × Unit))
  | 0, _, _, _, _, _ => none
  | n + 1, u0_0, u0_1, u0_2, u0_3, u0_4 => m_arena_Format_l0_b (m_arena_Format_l0 N n) (m_arena_Format_l1 N N) u0_0 u0_1 u0_2 u0_3 u0_4
def m_arena_Format_a (l0 : (Int → Int → Int → (List Int) → (List Int) → Option ((Option ((((List Int) × Unit) × Unit) × Unit)) × Int × ((List Int) × Unit)))) (x0 : ((List Int) × Unit)) (x1 : Int) : Option ((Option ((((List Int) × Unit) × Unit) × Unit)) × Int × ((List Int) × Unit)) :=
  if ((x0.1.length : Int) == (0 : Int)) = true then
  some (none, (1 : Int), (x0.1, ()))
  else
  if ((x0.1.length : Int) == (0 : Int)) = true then
   some (none, (1 : Int), (x0.1, ()))
  else
   if (decide (x1 < (1 : Int))) = true then
    some (none, (2 : Int), (x0.1, ()))
   else
    if (decide (x1 > (511 : Int))) = true then
     some (none, (2 : Int), (x0.1, ()))
    else
     Option.bind (m_arena_place (IntKind.i64.wrap (x1 + (1 : Int))) (0 : Int)) fun r8 =>
     if ((x0.1.length : Int) == (0 : Int)) = true then
      if (decide (r8 > (0 : Int))) = true then
       some (none, (2 : Int), (x0.1, ()))
      else
       Option.bind (m_mem_Mem_Copy (x0.1, ())) fun r12 =>
       Option.bind (m_arena_place (IntKind.i64.wrap (x1 + (1 : Int))) (0 : Int)) fun r14 =>
       l0 x1 r14 (0 : Int) r12.2.1 r12.1.1
     else
      if (decide (r8 > (x0.1.length : Int))) = true then
       some (none, (2 : Int), (x0.1, ()))
      else
       Option.bind (m_mem_Mem_Copy (x0.1, ())) fun r30 =>
       Option.bind (m_arena_place (IntKind.i64.wrap (x1 + (1 : Int))) (0 : Int)) fun r32 =>
       l0 x1 r32 (0 : Int) r30.2.1 r30.1.1
def m_arena_Format (x0 : ((List Int) × Unit)) (x1 : Int) : Option ((Option ((((List Int) × Unit) × Unit) × Unit)) × Int × ((List Int) × Unit)) := m_arena_Format_a (m_arena_Format_l0 FUEL FUEL) x0 x1
def m_mem_Mem_Load (x0 : ((List Int) × Unit)) (x1 : Int) : Option (Int × Int × ((List Int) × Unit)) :=
  Option.bind (m_mem_Mem_Do (x0.1, ()) ((1 : Int), (x1, ((0 : Int), ((0 : Int), ()))))) fun r1 =>
  some (r1.1.2.2.1, r1.2.1, (r1.2.2.1, ()))
def m_arena_Arena_Root (x0 : ((((List Int) × Unit) × Unit) × Unit)) : Option (Int × ((((List Int) × Unit) × Unit) × Unit)) :=
  Option.bind (m_mem_Mem_Load (x0.1.1.1, ()) (3 : Int)) fun r1 =>
  some ((IntKind.i64.wrap r1.1), (((r1.2.2.1, ()), ()), ()))
def m_arena_Arena_pages (x0 : ((((List Int) × Unit) × Unit) × Unit)) : Option (Int × ((((List Int) × Unit) × Unit) × Unit)) :=
  Option.bind (m_mem_Mem_Load (x0.1.1.1, ()) (0 : Int)) fun r1 =>
  some ((IntKind.i64.wrap r1.1), (((r1.2.2.1, ()), ()), ()))
def m_arena_Arena_kind (x0 : ((((List Int) × Unit) × Unit) × Unit)) (x1 : Int) : Option (Int × ((((List Int) × Unit) × Unit) × Unit)) :=
  Option.bind (m_arena_place x1 (8 : Int)) fun r1 =>
  Option.bind (m_mem_Mem_Load (x0.1.1.1, ()) r1) fun r2 =>
  some (r2.1, (((r2.2.2.1, ()), ()), ()))
def m_arena_Arena_used (x0 : ((((List Int) × Unit) × Unit) × Unit)) (x1 : Int) : Option (Bool × ((((List Int) × Unit) × Unit) × Unit)) :=
  Option.bind (m_arena_Arena_kind (((x0.1.1.1, ()), ()), ()) x1) fun r1 =>
  if (decide (r1.1 ≥ (1 : Int))) = true then
  some ((decide (r1.1 ≤ (6 : Int))), (((r1.2.1.1.1, ()), ()), ()))
  else
  some (false, (((r1.2.1.1.1, ()), ()), ()))
def m_arena_Arena_busy (x0 : ((((List Int) × Unit) × Unit) × Unit)) (x1 : Int) (x2 : Bool) : Option (Int × ((((List Int) × Unit) × Unit) × Unit)) :=
  if (decide (x1 < (1 : Int))) = true then
  some ((3 : Int), (((x0.1.1.1, ()), ()), ()))
  else
  Option.bind (m_arena_Arena_pages (((x0.1.1.1, ()), ()), ())) fun r2 =>
  if (decide (x1 > r2.1)) = true then
   some ((3 : Int), (((r2.2.1.1.1, ()), ()), ()))
  else
   Option.bind (m_arena_Arena_used (((r2.2.1.1.1, ()), ()), ()) x1) fun r4 =>
   if (!r4.1) = true then
    some ((8 : Int), (((r4.2.1.1.1, ()), ()), ()))
   else
    if x2 = true then
     Option.bind (m_arena_Arena_Root (((r4.2.1.1.1, ()), ()), ())) fun r5 =>
     if (r5.1 == x1) = true then
      some ((11 : Int), (((r5.2.1.1.1, ()), ()), ()))
     else
      some ((0 : Int), (((r5.2.1.1.1, ()), ()), ()))
    else
     some ((0 : Int), (((r4.2.1.1.1, ()), ()), ()))
def m_arena_Arena_put_l0_b (s0 : (Int → Int → (List Int) → (List Int) → Option ((((List Int) × Unit) × Unit) × Unit))) (u0_0 : Int) (u0_1 : Int) (u0_2 : (List Int)) (u0_3 : (List Int)) : Option ((((List Int) × Unit) × Unit) × Unit) :=
  if (decide (u0_1 < (128 : Int))) = true then
  Option.bind (m_arena_place u0_0 u0_1) fun r2 =>
  if (0 : Int) ≤ u0_1 then
   if u0_1 < (128 : Int) then
    Option.bind (m_mem_Mem_Store (u0_3, ()) r2 (rd (.int .u64) u0_2 u0_1)) fun r4 =>
    s0 u0_0 (IntKind.i64.wrap (u0_1 + (1 : Int))) u0_2 r4.2.1
   else none
  else none
  else
  some (((u0_3, ()), ()), ())
def m_arena_Arena_put_l0 (N : Nat) : Nat → Int → Int → (List Int) → (List Int) → Option ((((List Int) × Unit) × Unit) × Unit)
  | 0, _, _, _, _ => none
  | n + 1, u0_0, u0_1, u0_2, u0_3 => m_arena_Arena_put_l0_b (m_arena_Arena_put_l0 N n) u0_0 u0_1 u0_2 u0_3
def m_arena_Arena_put_a (l0 : (Int → Int → (List Int) → (List Int) → Option ((((List Int) × Unit) × Unit) × Unit))) (x0 : ((((List Int) × Unit) × Unit) × Unit)) (x1 : Int) (x2 : (List Int)) : Option ((((List Int) × Unit) × Unit) × Unit) :=
  l0 x1 (8 : Int) x2 x0.1.1.1
def m_arena_Arena_put (x0 : ((((List Int) × Unit) × Unit) × Unit)) (x1 : Int) (x2 : (List Int)) : Option ((((List Int) × Unit) × Unit) × Unit) := m_arena_Arena_put_a (m_arena_Arena_put_l0 FUEL FUEL) x0 x1 x2
def m_arena_Arena_Alloc (x0 : ((((List Int) × Unit) × Unit) × Unit)) (x1 : (List Int)) : Option (Int × Int × ((((List Int) × Unit) × Unit) × Unit)) :=
  Option.bind (m_slot_Valid x1) fun r1 =>
  if (!r1) = true then
  some ((0 : Int), (12 : Int), (((x0.1.1.1, ()), ()), ()))
  else
  Option.bind (m_mem_Mem_Load (x0.1.1.1, ()) (1 : Int)) fun r2 =>
  let v3 := (IntKind.i64.wrap r2.1)
  if (v3 == (0 : Int)) = true then
   some ((0 : Int), (7 : Int), (((r2.2.2.1, ()), ()), ()))
  else
   Option.bind (m_arena_place v3 (10 : Int)) fun r5 =>
   Option.bind (m_mem_Mem_Load (r2.2.2.1, ()) r5) fun r6 =>
   Option.bind (m_mem_Mem_Store (r6.2.2.1, ()) (1 : Int) r6.1) fun r7 =>
   Option.bind (m_arena_Arena_put (((r7.2.1, ()), ()), ()) v3 x1) fun r8 =>
   some (v3, (0 : Int), (((r8.1.1.1, ()), ()), ()))
def m_arena_Arena_SetRoot (x0 : ((((List Int) × Unit) × Unit) × Unit)) (x1 : Int) : Option (Int × ((((List Int) × Unit) × Unit) × Unit)) :=
  if (x1 != (0 : Int)) = true then
  Option.bind (m_arena_Arena_busy (((x0.1.1.1, ()), ()), ()) x1 false) fun r2 =>
  if (r2.1 != (0 : Int)) = true then
   some (r2.1, (((r2.2.1.1.1, ()), ()), ()))
  else
   Option.bind (m_mem_Mem_Store (r2.2.1.1.1, ()) (3 : Int) (IntKind.u64.wrap x1)) fun r5 =>
   some ((0 : Int), (((r5.2.1, ()), ()), ()))
  else
  Option.bind (m_mem_Mem_Store (x0.1.1.1, ()) (3 : Int) (IntKind.u64.wrap x1)) fun r7 =>
  some ((0 : Int), (((r7.2.1, ()), ()), ()))
end Go.Ev.M
