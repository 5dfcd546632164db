/- A part of the proof of a statement of this seat: the plain models of the functions. No condition. -/
import Derived.Test.YtiknbfledplnlaaM14
import Derived.Test.YtiknbfledplnlaaMA
set_option linter.unusedVariables false
namespace Go.Ev.M
open Go Go.Ev
def m_descend_valid (x0 : (Int × (Int × Unit))) : Option Bool :=
  if (decide (x0.1 ≥ (1 : Int))) = true then
  if (decide (x0.1 ≤ (511 : Int))) = true then
   if (decide (x0.2.1 ≥ (1 : Int))) = true then
    some (decide (x0.2.1 ≤ (17 : Int)))
   else
    some false
  else
   some false
  else
  some false
def m_descend_nodes (x0 : (Int × (Int × Unit))) : Option Int :=
  some (IntKind.i64.wrap ((16 : Int) + (IntKind.i64.wrap ((128 : Int) * x0.1))))
def m_descend_Words (x0 : (Int × (Int × Unit))) : Option (Int × Int) :=
  Option.bind (m_descend_valid x0) fun r1 =>
  if (!r1) = true then
  some ((0 : Int), (2 : Int))
  else
  Option.bind (m_descend_nodes x0) fun r2 =>
  some ((IntKind.i64.wrap (r2 + (IntKind.i64.wrap ((IntKind.i64.wrap (x0.2.1 * (2 : Int))) * (3 : Int))))), (0 : Int))
def m_ticketlinelaw33_small (x0 : (Int × (Int × Unit))) : Option Bool :=
  Option.bind (m_descend_Words x0) fun r1 =>
  if (r1.2 != (0 : Int)) = true then
  some true
  else
  some (decide (x0.1 ≤ (10 : Int)))
def m_descend_Format (x0 : (Int × (Int × Unit))) : Option ((Option ((List Int) × Unit)) × Int) :=
  Option.bind (m_descend_Words x0) fun r1 =>
  if (r1.2 != (0 : Int)) = true then
  some (none, r1.2)
  else
  Option.bind (m_mem_New r1.1) fun r3 =>
  (match r3.1 with
  | none =>
   if (r3.2 != (0 : Int)) = true then
    some (none, r3.2)
   else none
  | some y4 =>
   if (r3.2 != (0 : Int)) = true then
    some (none, r3.2)
   else
    Option.bind (m_arena_Format (y4.1, ()) x0.1) fun r7 =>
    (match r7.1 with
    | none =>
     if (r7.2.1 != (0 : Int)) = true then
      some (none, r7.2.1)
     else
      Option.bind (m_slot_Make (0 : Int) (⟨#[]⟩ : ByteArray) (⟨#[]⟩ : ByteArray)) fun r10 =>
      if (r10.2 != (0 : Int)) = true then
       some (none, r10.2)
      else none
    | some y8 =>
     if (r7.2.1 != (0 : Int)) = true then
      some (none, r7.2.1)
     else
      Option.bind (m_slot_Make (0 : Int) (⟨#[]⟩ : ByteArray) (⟨#[]⟩ : ByteArray)) fun r14 =>
      if (r14.2 != (0 : Int)) = true then
       some (none, r14.2)
      else
       Option.bind (m_arena_Arena_Alloc (((y8.1.1.1, ()), ()), ()) r14.1) fun r17 =>
       if (r17.2.1 != (0 : Int)) = true then
        some (none, r17.2.1)
       else
        Option.bind (m_arena_Arena_SetRoot (((r17.2.2.1.1.1, ()), ()), ()) r17.1) fun r19 =>
        if (r19.1 != (0 : Int)) = true then
         some (none, r19.1)
        else
         Option.bind (m_arena_Arena_Mem (((r19.2.1.1.1, ()), ()), ())) fun r21 =>
         (match r21.1 with
         | none =>
          some (none, (0 : Int))
         | some y22 =>
          some ((some (y22.1, ())), (0 : Int)))))
def m_deadline_allowed (x0 : (Int × (Int × Unit))) (x1 : Int) : Option Bool :=
  Option.bind (m_descend_Words x0) fun r1 =>
  if (r1.2 == (0 : Int)) = true then
  if (decide (x1 ≥ (0 : Int))) = true then
   some (decide (x1 ≤ (1099511627776 : Int)))
  else
   some false
  else
  some false
def m_deadline_NewCheck (x0 : (Int × (Int × Unit))) (x1 : Int) : Option ((Option (Bool × (Bool × (Int × (Int × Unit))))) × Int) :=
  Option.bind (m_deadline_allowed x0 x1) fun r1 =>
  if (!r1) = true then
  some (none, (2 : Int))
  else
  some ((some (true, (false, (x1, ((0 : Int), ()))))), (0 : Int))
def m_ticketlinelaw33_given : Option (Int × (Int × Unit)) :=
  some ((1 : Int), ((1 : Int), ()))
def m_deadline_Check_Done (x0 : (Bool × (Bool × (Int × (Int × Unit))))) : Option (Bool × (Bool × (Bool × (Int × (Int × Unit))))) :=
  if (!x0.1) = true then
  some (true, x0)
  else
  some (x0.2.1, x0)
def m_deadline_Check_over (x0 : (Bool × (Bool × (Int × (Int × Unit))))) : Option (Bool × (Bool × (Bool × (Int × (Int × Unit))))) :=
  if (!(!x0.1)) = true then
  some (x0.2.1, x0)
  else
  some (false, x0)
def m_deadline_Check_Tick (x0 : (Bool × (Bool × (Int × (Int × Unit))))) : Option (Int × (Bool × (Bool × (Int × (Int × Unit))))) :=
  Option.bind (m_deadline_Check_over x0) fun r1 =>
  if (!r1.1) = true then
  some ((0 : Int), r1.2)
  else
  some (r1.2.2.2.2.1, r1.2)
def m_clock_Passed (x0 : Int) (x1 : Int) : Option Bool :=
  if (decide (x0 < (4611686018427387904 : Int))) = true then
  some (decide (x1 > x0))
  else
  some false
def m_deadline_Check_Result (x0 : (Bool × (Bool × (Int × (Int × Unit))))) : Option (Int × (Bool × (Bool × (Int × (Int × Unit))))) :=
  Option.bind (m_deadline_Check_over x0) fun r1 =>
  if (!r1.1) = true then
  some ((0 : Int), r1.2)
  else
  if (decide (r1.2.2.2.1 > (0 : Int))) = true then
   Option.bind (m_clock_Passed r1.2.2.2.1 r1.2.2.2.2.1) fun r3 =>
   if r3 = true then
    some ((0 : Int), r1.2)
   else
    some ((1 : Int), r1.2)
  else
   some ((1 : Int), r1.2)
def m_ticketlinelaw33_looks (x0 : ((List Int) × Unit)) (x1 : (Bool × (Bool × (Int × (Int × Unit))))) (x2 : Int) (x3 : Int) : Option (Bool × ((List Int) × Unit) × (Bool × (Bool × (Int × (Int × Unit))))) :=
  Option.bind (m_deadline_Check_Done x1) fun r1 =>
  if r1.1 = true then
  some (false, (x0.1, ()), r1.2)
  else
  Option.bind (m_deadline_Check_Result r1.2) fun r2 =>
  if (r2.1 != (0 : Int)) = true then
   some (false, (x0.1, ()), r2.2)
  else
   Option.bind (m_deadline_Check_Tick r2.2) fun r4 =>
   if (r4.1 != (0 : Int)) = true then
    some (false, (x0.1, ()), r4.2)
   else
    if ((x0.1.length : Int) == (0 : Int)) = true then
     some (false, (x0.1, ()), r4.2)
    else
     if (!r4.2.1) = true then
      if (!r4.2.1) = true then
       some (false, (x0.1, ()), r4.2)
      else
       if r4.2.2.1 = true then
        some (false, (x0.1, ()), r4.2)
       else
        Option.bind (m_mem_Mem_Load (x0.1, ()) (6 : Int)) fun r8 =>
        if (r8.2.1 != (0 : Int)) = true then
         some (false, (r8.2.2.1, ()), r4.2)
        else
         some (false, (r8.2.2.1, ()), (r4.2.1, (true, (r4.2.2.2.1, ((IntKind.i64.wrap (mn r8.1 (1099511627776 : Int))), ())))))
     else
      if r4.2.2.1 = true then
       if (!r4.2.1) = true then
        some (false, (x0.1, ()), r4.2)
       else
        if r4.2.2.1 = true then
         some (false, (x0.1, ()), r4.2)
        else
         Option.bind (m_mem_Mem_Load (x0.1, ()) (6 : Int)) fun r12 =>
         if (r12.2.1 != (0 : Int)) = true then
          some (false, (r12.2.2.1, ()), r4.2)
         else
          some (false, (r12.2.2.1, ()), (r4.2.1, (true, (r4.2.2.2.1, ((IntKind.i64.wrap (mn r12.1 (1099511627776 : Int))), ())))))
      else
       Option.bind (m_mem_Mem_Do (x0.1, ()) ((1 : Int), ((6 : Int), ((0 : Int), ((0 : Int), ()))))) fun r16 =>
       if (r16.2.1 == (0 : Int)) = true then
        if (r16.2.1 != (0 : Int)) = true then
         if (!r4.2.1) = true then
          if (r16.2.1 == (0 : Int)) = true then
           some (false, (r16.2.2.1, ()), r4.2)
          else
           some (false, (r16.2.2.1, ()), r4.2)
         else
          if r4.2.2.1 = true then
           if (r16.2.1 == (0 : Int)) = true then
            if (r16.1.1 == (1 : Int)) = true then
             if (r16.1.2.1 == (6 : Int)) = true then
              Option.bind (m_deadline_Check_Done r4.2) fun r23 =>
              if r23.1 = true then
               Option.bind (m_deadline_Check_Result r23.2) fun r24 =>
               if (r24.1 == x2) = true then
                Option.bind (m_deadline_Check_Tick r24.2) fun r25 =>
                some ((r25.1 == x3), (r16.2.2.1, ()), r25.2)
               else
                some (false, (r16.2.2.1, ()), r24.2)
              else
               some (false, (r16.2.2.1, ()), r23.2)
             else
              some (false, (r16.2.2.1, ()), r4.2)
            else
             some (false, (r16.2.2.1, ()), r4.2)
           else
            some (false, (r16.2.2.1, ()), r4.2)
          else
           Option.bind (m_mem_Mem_Load (r16.2.2.1, ()) (6 : Int)) fun r26 =>
           if (r26.2.1 != (0 : Int)) = true then
            if (r16.2.1 == (0 : Int)) = true then
             if (r26.2.1 == (17 : Int)) = true then
              if (r16.1.1 == (1 : Int)) = true then
               if (r16.1.2.1 == (6 : Int)) = true then
                Option.bind (m_deadline_Check_Done r4.2) fun r32 =>
                if r32.1 = true then
                 Option.bind (m_deadline_Check_Result r32.2) fun r33 =>
                 if (r33.1 == x2) = true then
                  Option.bind (m_deadline_Check_Tick r33.2) fun r34 =>
                  some ((r34.1 == x3), (r26.2.2.1, ()), r34.2)
                 else
                  some (false, (r26.2.2.1, ()), r33.2)
                else
                 some (false, (r26.2.2.1, ()), r32.2)
               else
                some (false, (r26.2.2.1, ()), r4.2)
              else
               some (false, (r26.2.2.1, ()), r4.2)
             else
              some (false, (r26.2.2.1, ()), r4.2)
            else
             some (false, (r26.2.2.1, ()), r4.2)
           else
            let v36 := (IntKind.i64.wrap (mn r26.1 (1099511627776 : Int)))
            if (r16.2.1 == (0 : Int)) = true then
             some (false, (r26.2.2.1, ()), (r4.2.1, (true, (r4.2.2.2.1, (v36, ())))))
            else
             some (false, (r26.2.2.1, ()), (r4.2.1, (true, (r4.2.2.2.1, (v36, ())))))
        else
         let v39 := (IntKind.i64.wrap (mn r16.1.2.2.1 (1099511627776 : Int)))
         if (!r4.2.1) = true then
          some (false, (r16.2.2.1, ()), (r4.2.1, (true, (r4.2.2.2.1, (v39, ())))))
         else
          if (r16.1.1 == (1 : Int)) = true then
           if (r16.1.2.1 == (6 : Int)) = true then
            Option.bind (m_deadline_Check_Done (r4.2.1, (true, (r4.2.2.2.1, (v39, ()))))) fun r42 =>
            if r42.1 = true then
             Option.bind (m_deadline_Check_Result r42.2) fun r43 =>
             if (r43.1 == x2) = true then
              Option.bind (m_deadline_Check_Tick r43.2) fun r44 =>
              some ((r44.1 == x3), (r16.2.2.1, ()), r44.2)
             else
              some (false, (r16.2.2.1, ()), r43.2)
            else
             some (false, (r16.2.2.1, ()), r42.2)
           else
            some (false, (r16.2.2.1, ()), (r4.2.1, (true, (r4.2.2.2.1, (v39, ())))))
          else
           some (false, (r16.2.2.1, ()), (r4.2.1, (true, (r4.2.2.2.1, (v39, ())))))
       else
        if (r16.2.1 != (0 : Int)) = true then
         if (!r4.2.1) = true then
          if (r16.2.1 == (0 : Int)) = true then
           some (false, (r16.2.2.1, ()), r4.2)
          else
           some (false, (r16.2.2.1, ()), r4.2)
         else
          if r4.2.2.1 = true then
           if (r16.2.1 == (0 : Int)) = true then
            some (false, (r16.2.2.1, ()), r4.2)
           else
            some (false, (r16.2.2.1, ()), r4.2)
          else
           Option.bind (m_mem_Mem_Load (r16.2.2.1, ()) (6 : Int)) fun r48 =>
           if (r48.2.1 != (0 : Int)) = true then
            if (r16.2.1 == (0 : Int)) = true then
             if (r48.2.1 == (17 : Int)) = true then
              some (false, (r48.2.2.1, ()), r4.2)
             else
              some (false, (r48.2.2.1, ()), r4.2)
            else
             some (false, (r48.2.2.1, ()), r4.2)
           else
            let v53 := (IntKind.i64.wrap (mn r48.1 (1099511627776 : Int)))
            if (r16.2.1 == (0 : Int)) = true then
             some (false, (r48.2.2.1, ()), (r4.2.1, (true, (r4.2.2.2.1, (v53, ())))))
            else
             some (false, (r48.2.2.1, ()), (r4.2.1, (true, (r4.2.2.2.1, (v53, ())))))
        else
         let v56 := (IntKind.i64.wrap (mn r16.1.2.2.1 (1099511627776 : Int)))
         if (!r4.2.1) = true then
          some (false, (r16.2.2.1, ()), (r4.2.1, (true, (r4.2.2.2.1, (v56, ())))))
         else
          some (false, (r16.2.2.1, ()), (r4.2.1, (true, (r4.2.2.2.1, (v56, ())))))
def m_ticketlinelaw33_check (x0 : ((List Int) × Unit)) (x1 : (Int × (Int × Unit))) (x2 : Int) (x3 : Int) (x4 : Int) : Option (Bool × ((List Int) × Unit)) :=
  Option.bind (m_deadline_NewCheck x1 x2) fun r1 =>
  (match r1.1 with
  | none =>
  some (false, (x0.1, ()))
  | some y2 =>
  if (r1.2 == (0 : Int)) = true then
   Option.bind (m_ticketlinelaw33_looks (x0.1, ()) y2 x3 x4) fun r4 =>
   some (r4.1, (r4.2.1.1, ()))
  else
   some (false, (x0.1, ())))
def m_ticketlinelaw33_known : Option Bool :=
  some true
def m_ticketlineref33_Fine (x0 : Int) : Option Bool :=
  if (decide (x0 ≥ (0 : Int))) = true then
  some (decide (x0 ≤ (1099511627776 : Int)))
  else
  some false
def m_slices_Equal_uint64_uint64_l0_b (s0 : ((List Int) → (List Int) → Int → Int → Option Bool)) (u0_0 : (List Int)) (u0_1 : (List Int)) (u0_2 : Int) (u0_3 : Int) : Option Bool :=
  if (decide (u0_3 < u0_2)) = true then
  if (0 : Int) ≤ u0_3 then
   if u0_3 < (u0_0.length : Int) then
    if (0 : Int) ≤ u0_3 then
     if u0_3 < (u0_1.length : Int) then
      if ((rd (.int .u64) u0_0 u0_3) != (rd (.int .u64) u0_1 u0_3)) = true then
       some false
      else
       s0 u0_0 u0_1 u0_2 (IntKind.i64.wrap (u0_3 + (1 : Int)))
     else none
    else none
   else none
  else none
  else
  some true
def m_slices_Equal_uint64_uint64_l0 (N : Nat) : Nat → (List Int) → (List Int) → Int → Int → Option Bool
  | 0, _, _, _, _ => none
  | n + 1, u0_0, u0_1, u0_2, u0_3 => m_slices_Equal_uint64_uint64_l0_b (m_slices_Equal_uint64_uint64_l0 N n) u0_0 u0_1 u0_2 u0_3
def m_slices_Equal_uint64_uint64_a (l0 : ((List Int) → (List Int) → Int → Int → Option Bool)) (x0 : (List Int)) (x1 : (List Int)) : Option Bool :=
  if ((x0.length : Int) != (x1.length : Int)) = true then
  some false
  else
  l0 x0 x1 (x0.length : Int) (0 : Int)
def m_slices_Equal_uint64_uint64 (x0 : (List Int)) (x1 : (List Int)) : Option Bool := m_slices_Equal_uint64_uint64_a (m_slices_Equal_uint64_uint64_l0 FUEL FUEL) x0 x1
def m_mem_Mem_Same (x0 : ((List Int) × Unit)) (x1 : ((List Int) × Unit)) : Option (Bool × ((List Int) × Unit) × ((List Int) × Unit)) :=
  if (!((x0.1.length : Int) == (0 : Int))) = true then
  if (!((x1.1.length : Int) == (0 : Int))) = true then
   Option.bind (m_slices_Equal_uint64_uint64 x0.1 x1.1) fun r5 =>
   some (r5, (x0.1, ()), (x1.1, ()))
  else
   some (false, (x0.1, ()), (x1.1, ()))
  else
  some (false, (x0.1, ()), (x1.1, ()))
def m_ticketlinelaw33_DeadlineSets_l0_b (s0 : ((List Int) → Int → Int → Int → Int → (List Int) → Option Bool)) (u0_0 : (List Int)) (u0_1 : Int) (u0_2 : Int) (u0_3 : Int) (u0_4 : Int) (u0_5 : (List Int)) : Option Bool :=
  if (decide (u0_2 < (u0_0.length : Int))) = true then
  Option.bind (m_mem_Mem_Copy (u0_5, ())) fun r56 =>
  if (0 : Int) ≤ u0_2 then
   if u0_2 < (u0_0.length : Int) then
    Option.bind (m_ticketlineref33_Fine (rd (.int .i64) u0_0 u0_2)) fun r58 =>
    if r58 = true then
     if (0 : Int) ≤ u0_2 then
      if u0_2 < (u0_0.length : Int) then
       let v59 := (rd (.int .i64) u0_0 u0_2)
       Option.bind (m_mem_Mem_Store (r56.1.1, ()) (6 : Int) (IntKind.u64.wrap v59)) fun r61 =>
       if (r61.1 != (0 : Int)) = true then
        some false
       else
        if (0 : Int) ≤ u0_2 then
         if u0_2 < (u0_0.length : Int) then
          let v63 := (rd (.int .i64) u0_0 u0_2)
          Option.bind (m_deadline_allowed (u0_3, (u0_4, ())) v63) fun r64 =>
          if (!r64) = true then
           some false
          else
           Option.bind (m_mem_Mem_Store (r56.2.1, ()) (6 : Int) (IntKind.u64.wrap v63)) fun r66 =>
           if (r66.1 != (0 : Int)) = true then
            some false
           else
            Option.bind (m_deadline_allowed (u0_3, (u0_4, ())) (0 : Int)) fun r68 =>
            if (!r68) = true then
             if ((0 : Int) == v59) = true then
              some false
             else
              some false
            else
             Option.bind (m_mem_Mem_Load (r66.2.1, ()) (6 : Int)) fun r70 =>
             if ((IntKind.i64.wrap (mn r70.1 (1099511627776 : Int))) == v59) = true then
              if (!(r70.2.1 == (0 : Int))) = true then
               some false
              else
               Option.bind (m_mem_Mem_Same (r70.2.2.1, ()) (r61.2.1, ())) fun r74 =>
               if (!r74.1) = true then
                some false
               else
                s0 u0_0 v59 (IntKind.i64.wrap (u0_2 + (1 : Int))) u0_3 u0_4 r74.2.1.1
             else
              some false
         else none
        else none
      else none
     else none
    else
     if (0 : Int) ≤ u0_2 then
      if u0_2 < (u0_0.length : Int) then
       let v76 := (rd (.int .i64) u0_0 u0_2)
       Option.bind (m_deadline_allowed (u0_3, (u0_4, ())) v76) fun r77 =>
       if (!r77) = true then
        Option.bind (m_deadline_allowed (u0_3, (u0_4, ())) (0 : Int)) fun r78 =>
        if (!r78) = true then
         if ((0 : Int) == u0_1) = true then
          some false
         else
          some false
        else
         Option.bind (m_mem_Mem_Load (r56.2.1, ()) (6 : Int)) fun r80 =>
         if ((IntKind.i64.wrap (mn r80.1 (1099511627776 : Int))) == u0_1) = true then
          if (!(r80.2.1 == (0 : Int))) = true then
           some false
          else
           Option.bind (m_mem_Mem_Same (r80.2.2.1, ()) (r56.1.1, ())) fun r84 =>
           if (!r84.1) = true then
            some false
           else
            s0 u0_0 u0_1 (IntKind.i64.wrap (u0_2 + (1 : Int))) u0_3 u0_4 r84.2.1.1
         else
          some false
       else
        Option.bind (m_mem_Mem_Store (r56.2.1, ()) (6 : Int) (IntKind.u64.wrap v76)) fun r87 =>
        if (r87.1 != (2 : Int)) = true then
         some false
        else
         Option.bind (m_deadline_allowed (u0_3, (u0_4, ())) (0 : Int)) fun r89 =>
         if (!r89) = true then
          if ((0 : Int) == u0_1) = true then
           some false
          else
           some false
         else
          Option.bind (m_mem_Mem_Load (r87.2.1, ()) (6 : Int)) fun r91 =>
          if ((IntKind.i64.wrap (mn r91.1 (1099511627776 : Int))) == u0_1) = true then
           if (!(r91.2.1 == (0 : Int))) = true then
            some false
           else
            Option.bind (m_mem_Mem_Same (r91.2.2.1, ()) (r56.1.1, ())) fun r95 =>
            if (!r95.1) = true then
             some false
            else
             s0 u0_0 u0_1 (IntKind.i64.wrap (u0_2 + (1 : Int))) u0_3 u0_4 r95.2.1.1
          else
           some false
      else none
     else none
   else none
  else none
  else
  Option.bind (m_ticketlinelaw33_known) fun r97 =>
  some r97
def m_ticketlinelaw33_DeadlineSets_l0 (N : Nat) : Nat → (List Int) → Int → Int → Int → Int → (List Int) → Option Bool
  | 0, _, _, _, _, _, _ => none
  | n + 1, u0_0, u0_1, u0_2, u0_3, u0_4, u0_5 => m_ticketlinelaw33_DeadlineSets_l0_b (m_ticketlinelaw33_DeadlineSets_l0 N n) u0_0 u0_1 u0_2 u0_3 u0_4 u0_5
def m_ticketlinelaw33_DeadlineSets_a (l0 : ((List Int) → Int → Int → Int → Int → (List Int) → Option Bool)) (x0 : (Int × (Int × Unit))) (x1 : (List Int)) : Option Bool :=
  Option.bind (m_ticketlinelaw33_small x0) fun r1 =>
  if (!r1) = true then
  Option.bind (m_ticketlinelaw33_known) fun r2 =>
  some r2
  else
  if (decide ((x1.length : Int) > (20 : Int))) = true then
   Option.bind (m_ticketlinelaw33_known) fun r5 =>
   some r5
  else
   Option.bind (m_descend_Format x0) fun r6 =>
   (match r6.1 with
   | none =>
    if (r6.2 != (0 : Int)) = true then
     Option.bind (m_mem_New (50 : Int)) fun r9 =>
     (match r9.1 with
     | none =>
      some false
     | some y10 =>
      if (r9.2 != (0 : Int)) = true then
       some false
      else
       Option.bind (m_deadline_allowed x0 (0 : Int)) fun r12 =>
       if (!r12) = true then
        Option.bind (m_deadline_allowed x0 (0 : Int)) fun r13 =>
        if (!r13) = true then
         Option.bind (m_ticketlinelaw33_known) fun r14 =>
         some r14
        else
         Option.bind (m_mem_Mem_Load (y10.1, ()) (6 : Int)) fun r15 =>
         if ((IntKind.i64.wrap (mn r15.1 (1099511627776 : Int))) == (0 : Int)) = true then
          if (r15.2.1 == (2 : Int)) = true then
           Option.bind (m_ticketlinelaw33_known) fun r20 =>
           some r20
          else
           some false
         else
          some false
       else
        Option.bind (m_mem_Mem_Store (y10.1, ()) (6 : Int) (0 : Int)) fun r21 =>
        if (r21.1 == (2 : Int)) = true then
         Option.bind (m_deadline_allowed x0 (0 : Int)) fun r23 =>
         if (!r23) = true then
          Option.bind (m_ticketlinelaw33_known) fun r24 =>
          some r24
         else
          Option.bind (m_mem_Mem_Load (r21.2.1, ()) (6 : Int)) fun r25 =>
          if ((IntKind.i64.wrap (mn r25.1 (1099511627776 : Int))) == (0 : Int)) = true then
           if (r25.2.1 == (2 : Int)) = true then
            Option.bind (m_ticketlinelaw33_known) fun r30 =>
            some r30
           else
            some false
          else
           some false
        else
         some false)
    else
     some false
   | some y7 =>
    if (r6.2 != (0 : Int)) = true then
     Option.bind (m_mem_New (50 : Int)) fun r32 =>
     (match r32.1 with
     | none =>
      some false
     | some y33 =>
      if (r32.2 != (0 : Int)) = true then
       some false
      else
       Option.bind (m_deadline_allowed x0 (0 : Int)) fun r35 =>
       if (!r35) = true then
        Option.bind (m_deadline_allowed x0 (0 : Int)) fun r36 =>
        if (!r36) = true then
         Option.bind (m_ticketlinelaw33_known) fun r37 =>
         some r37
        else
         Option.bind (m_mem_Mem_Load (y33.1, ()) (6 : Int)) fun r38 =>
         if ((IntKind.i64.wrap (mn r38.1 (1099511627776 : Int))) == (0 : Int)) = true then
          if (r38.2.1 == (2 : Int)) = true then
           Option.bind (m_ticketlinelaw33_known) fun r43 =>
           some r43
          else
           some false
         else
          some false
       else
        Option.bind (m_mem_Mem_Store (y33.1, ()) (6 : Int) (0 : Int)) fun r44 =>
        if (r44.1 == (2 : Int)) = true then
         Option.bind (m_deadline_allowed x0 (0 : Int)) fun r46 =>
         if (!r46) = true then
          Option.bind (m_ticketlinelaw33_known) fun r47 =>
          some r47
         else
          Option.bind (m_mem_Mem_Load (r44.2.1, ()) (6 : Int)) fun r48 =>
          if ((IntKind.i64.wrap (mn r48.1 (1099511627776 : Int))) == (0 : Int)) = true then
           if (r48.2.1 == (2 : Int)) = true then
            Option.bind (m_ticketlinelaw33_known) fun r53 =>
            some r53
           else
            some false
          else
           some false
        else
         some false)
    else
     l0 x1 (0 : Int) (0 : Int) x0.1 x0.2.1 y7.1)
def m_ticketlinelaw33_DeadlineSets (x0 : (Int × (Int × Unit))) (x1 : (List Int)) : Option Bool := m_ticketlinelaw33_DeadlineSets_a (m_ticketlinelaw33_DeadlineSets_l0 FUEL FUEL) x0 x1
def m_ticketlineref33_Seen (x0 : Int) : Option Int :=
  if (decide (x0 > (1099511627776 : Int))) = true then
  some (1099511627776 : Int)
  else
  some (IntKind.i64.wrap x0)
def m_ticketlineref33_Result (x0 : Int) (x1 : Int) : Option Int :=
  if (x0 != (0 : Int)) = true then
  if (decide (x1 > x0)) = true then
   some (0 : Int)
  else
   some (1 : Int)
  else
  some (1 : Int)
def m_ticketlinelaw33_DeadlineChecks (x0 : (Int × (Int × Unit))) (x1 : Int) (x2 : Int) : Option Bool :=
  Option.bind (m_ticketlinelaw33_small x0) fun r1 =>
  if (!r1) = true then
  Option.bind (m_ticketlinelaw33_known) fun r2 =>
  some r2
  else
  Option.bind (m_descend_Format x0) fun r3 =>
  (match r3.1 with
  | none =>
   Option.bind (m_deadline_NewCheck x0 x2) fun r5 =>
   (match r5.1 with
   | none =>
    if (r3.2 != (0 : Int)) = true then
     if (r5.2 == (2 : Int)) = true then
      Option.bind (m_ticketlinelaw33_known) fun r9 =>
      some r9
     else
      some false
    else
     Option.bind (m_ticketlineref33_Fine x2) fun r10 =>
     if (!r10) = true then
      if (r5.2 == (2 : Int)) = true then
       Option.bind (m_ticketlinelaw33_known) fun r12 =>
       some r12
      else
       some false
     else
      some false
   | some y6 =>
    if (r3.2 != (0 : Int)) = true then
     some false
    else
     Option.bind (m_ticketlineref33_Fine x2) fun r14 =>
     if (!r14) = true then
      some false
     else
      some false)
  | some y4 =>
   Option.bind (m_deadline_NewCheck x0 x2) fun r15 =>
   (match r15.1 with
   | none =>
    if (r3.2 != (0 : Int)) = true then
     if (r15.2 == (2 : Int)) = true then
      Option.bind (m_ticketlinelaw33_known) fun r19 =>
      some r19
     else
      some false
    else
     Option.bind (m_ticketlineref33_Fine x2) fun r20 =>
     if (!r20) = true then
      if (r15.2 == (2 : Int)) = true then
       Option.bind (m_ticketlinelaw33_known) fun r22 =>
       some r22
      else
       some false
     else
      some false
   | some y16 =>
    if (r3.2 != (0 : Int)) = true then
     some false
    else
     Option.bind (m_ticketlineref33_Fine x2) fun r24 =>
     if (!r24) = true then
      some false
     else
      if (r15.2 != (0 : Int)) = true then
       some false
      else
       Option.bind (m_mem_Mem_Store (y4.1, ()) (6 : Int) x1) fun r26 =>
       if (r26.1 != (0 : Int)) = true then
        some false
       else
        if (!y16.1) = true then
         none
        else
         Option.bind (m_mem_Mem_Copy (r26.2.1, ())) fun r28 =>
         Option.bind (m_ticketlineref33_Seen x1) fun r29 =>
         Option.bind (m_ticketlineref33_Result x2 r29) fun r30 =>
         Option.bind (m_ticketlinelaw33_looks (r28.2.1, ()) y16 r30 r29) fun r31 =>
         if r31.1 = true then
          Option.bind (m_ticketlineref33_Result x2 r29) fun r32 =>
          Option.bind (m_ticketlinelaw33_looks (r31.2.1.1, ()) y16 r32 r29) fun r33 =>
          if r33.1 = true then
           Option.bind (m_mem_Mem_Same (r33.2.1.1, ()) (r28.1.1, ())) fun r34 =>
           if r34.1 = true then
            Option.bind (m_ticketlinelaw33_known) fun r35 =>
            some r35
           else
            some false
          else
           some false
         else
          some false))
def m_ticketlinelaw33_DeadlineShort_l0_b (u0_0 : Int) (u0_1 : Bool) (u0_2 : Bool) (u0_3 : Int) (u0_4 : Int) (u0_5 : (List Int)) : Option Bool :=
  Option.bind (m_ticketlinelaw33_given) fun r30 =>
  Option.bind (m_deadline_allowed r30 (4 : Int)) fun r31 =>
  if (!r31) = true then
  some false
  else
  Option.bind (m_mem_Mem_Store (u0_5, ()) (6 : Int) (4 : Int)) fun r32 =>
  if (r32.1 == (3 : Int)) = true then
   Option.bind (m_ticketlinelaw33_given) fun r34 =>
   Option.bind (m_deadline_allowed r34 (0 : Int)) fun r35 =>
   if (!r35) = true then
    some false
   else
    Option.bind (m_mem_Mem_Load (r32.2.1, ()) (6 : Int)) fun r36 =>
    if ((IntKind.i64.wrap (mn r36.1 (1099511627776 : Int))) == (0 : Int)) = true then
     if (r36.2.1 == (3 : Int)) = true then
      if (u0_0 == (3 : Int)) = true then
       Option.bind (m_deadline_Check_Done (u0_1, (u0_2, (u0_3, (u0_4, ()))))) fun r42 =>
       if (!r42.1) = true then
        Option.bind (m_ticketlinelaw33_known) fun r43 =>
        some r43
       else
        some false
      else
       some false
     else
      some false
    else
     some false
  else
   some false
def m_ticketlinelaw33_DeadlineShort_l0 (N : Nat) (u0_0 : Int) (u0_1 : Bool) (u0_2 : Bool) (u0_3 : Int) (u0_4 : Int) (u0_5 : (List Int)) : Option Bool := m_ticketlinelaw33_DeadlineShort_l0_b u0_0 u0_1 u0_2 u0_3 u0_4 u0_5
def m_ticketlinelaw33_DeadlineShort_a (l0 : (Int → Bool → Bool → Int → Int → (List Int) → Option Bool)) (x0 : Int) : Option Bool :=
  if (decide (x0 < (1 : Int))) = true then
  Option.bind (m_ticketlinelaw33_known) fun r2 =>
  some r2
  else
  if (decide (x0 > (9 : Int))) = true then
   Option.bind (m_ticketlinelaw33_known) fun r4 =>
   some r4
  else
   Option.bind (m_mem_New (IntKind.i64.wrap x0)) fun r6 =>
   (match r6.1 with
   | none =>
    Option.bind (m_ticketlinelaw33_given) fun r8 =>
    Option.bind (m_deadline_NewCheck r8 (3 : Int)) fun r9 =>
    (match r9.1 with
    | none =>
     some false
    | some y10 =>
     some false)
   | some y7 =>
    Option.bind (m_ticketlinelaw33_given) fun r11 =>
    Option.bind (m_deadline_NewCheck r11 (3 : Int)) fun r12 =>
    (match r12.1 with
    | none =>
     some false
    | some y13 =>
     if (r6.2 != (0 : Int)) = true then
      some false
     else
      if (r12.2 != (0 : Int)) = true then
       some false
      else
       if (decide (x0 > (6 : Int))) = true then
        Option.bind (m_ticketlinelaw33_given) fun r17 =>
        Option.bind (m_deadline_allowed r17 (4 : Int)) fun r18 =>
        if (!r18) = true then
         some false
        else
         Option.bind (m_mem_Mem_Store (y7.1, ()) (6 : Int) (4 : Int)) fun r19 =>
         if (r19.1 == (0 : Int)) = true then
          Option.bind (m_ticketlinelaw33_given) fun r21 =>
          Option.bind (m_deadline_allowed r21 (0 : Int)) fun r22 =>
          if (!r22) = true then
           some false
          else
           Option.bind (m_mem_Mem_Load (r19.2.1, ()) (6 : Int)) fun r23 =>
           if ((IntKind.i64.wrap (mn r23.1 (1099511627776 : Int))) == (4 : Int)) = true then
            if (r23.2.1 == (0 : Int)) = true then
             Option.bind (m_ticketlinelaw33_looks (r23.2.2.1, ()) y13 (0 : Int) (4 : Int)) fun r28 =>
             if r28.1 = true then
              Option.bind (m_ticketlinelaw33_known) fun r29 =>
              some r29
             else
              some false
            else
             some false
           else
            some false
         else
          some false
       else
        if (!y13.1) = true then
         l0 (1 : Int) y13.1 y13.2.1 y13.2.2.1 y13.2.2.2.1 y7.1
        else
         if y13.2.1 = true then
          l0 (17 : Int) y13.1 y13.2.1 y13.2.2.1 y13.2.2.2.1 y7.1
         else
          Option.bind (m_mem_Mem_Load (y7.1, ()) (6 : Int)) fun r44 =>
          if (r44.2.1 != (0 : Int)) = true then
           l0 r44.2.1 y13.1 y13.2.1 y13.2.2.1 y13.2.2.2.1 r44.2.2.1
          else
           l0 (0 : Int) y13.1 true y13.2.2.1 (IntKind.i64.wrap (mn r44.1 (1099511627776 : Int))) r44.2.2.1))
def m_ticketlinelaw33_DeadlineShort (x0 : Int) : Option Bool := m_ticketlinelaw33_DeadlineShort_a (m_ticketlinelaw33_DeadlineShort_l0 FUEL) x0
def m_ticketlinelaw33_DeadlineHolds_l0_b (s0 : (Int → (List Int) → Int → Bool → Int → Int → Int → (List Int) → Option Bool)) (u0_0 : Int) (u0_1 : (List Int)) (u0_2 : Int) (u0_3 : Bool) (u0_4 : Int) (u0_5 : Int) (u0_6 : Int) (u0_7 : (List Int)) : Option Bool :=
  if (decide (u0_4 < (u0_1.length : Int))) = true then
  Option.bind (m_deadline_NewCheck (u0_5, (u0_6, ())) u0_0) fun r14 =>
  (match r14.1 with
  | none =>
   some false
  | some y15 =>
   if (r14.2 != (0 : Int)) = true then
    some false
   else
    if (0 : Int) ≤ u0_4 then
     if u0_4 < (u0_1.length : Int) then
      let v20 := (IntKind.i64.wrap (u0_2 + (IntKind.i64.wrap (Int.tmod (rd (.int .u32) u0_1 u0_4) (1073741824 : Int)))))
      Option.bind (m_deadline_allowed (u0_5, (u0_6, ())) v20) fun r21 =>
      if (!r21) = true then
       some false
      else
       Option.bind (m_mem_Mem_Store (u0_7, ()) (6 : Int) (IntKind.u64.wrap v20)) fun r23 =>
       if (r23.1 != (0 : Int)) = true then
        some false
       else
        if (!y15.1) = true then
         some false
        else
         if y15.2.1 = true then
          some false
         else
          Option.bind (m_mem_Mem_Load (r23.2.1, ()) (6 : Int)) fun r25 =>
          if (r25.2.1 != (0 : Int)) = true then
           if (r25.2.1 != (0 : Int)) = true then
            some false
           else
            Option.bind (m_deadline_Check_Tick y15) fun r28 =>
            if (r28.1 != v20) = true then
             some false
            else
             Option.bind (m_deadline_Check_Result r28.2) fun r29 =>
             if (!((r29.1 == (1 : Int)) == (decide (v20 ≤ u0_0)))) = true then
              some false
             else
              if u0_3 = true then
               Option.bind (m_deadline_Check_Result r29.2) fun r32 =>
               if (r32.1 == (1 : Int)) = true then
                some false
               else
                if u0_3 = true then
                 s0 u0_0 u0_1 v20 true (IntKind.i64.wrap (u0_4 + (1 : Int))) u0_5 u0_6 r25.2.2.1
                else
                 Option.bind (m_deadline_Check_Result r32.2) fun r35 =>
                 s0 u0_0 u0_1 v20 (r35.1 == (0 : Int)) (IntKind.i64.wrap (u0_4 + (1 : Int))) u0_5 u0_6 r25.2.2.1
              else
               if u0_3 = true then
                s0 u0_0 u0_1 v20 true (IntKind.i64.wrap (u0_4 + (1 : Int))) u0_5 u0_6 r25.2.2.1
               else
                Option.bind (m_deadline_Check_Result r29.2) fun r39 =>
                s0 u0_0 u0_1 v20 (r39.1 == (0 : Int)) (IntKind.i64.wrap (u0_4 + (1 : Int))) u0_5 u0_6 r25.2.2.1
          else
           Option.bind (m_deadline_Check_Tick (y15.1, (true, (y15.2.2.1, ((IntKind.i64.wrap (mn r25.1 (1099511627776 : Int))), ()))))) fun r44 =>
           if (r44.1 != v20) = true then
            some false
           else
            Option.bind (m_deadline_Check_Result r44.2) fun r45 =>
            if (!((r45.1 == (1 : Int)) == (decide (v20 ≤ u0_0)))) = true then
             some false
            else
             if u0_3 = true then
              Option.bind (m_deadline_Check_Result r45.2) fun r48 =>
              if (r48.1 == (1 : Int)) = true then
               some false
              else
               if u0_3 = true then
                s0 u0_0 u0_1 v20 true (IntKind.i64.wrap (u0_4 + (1 : Int))) u0_5 u0_6 r25.2.2.1
               else
                Option.bind (m_deadline_Check_Result r48.2) fun r51 =>
                s0 u0_0 u0_1 v20 (r51.1 == (0 : Int)) (IntKind.i64.wrap (u0_4 + (1 : Int))) u0_5 u0_6 r25.2.2.1
             else
              if u0_3 = true then
               s0 u0_0 u0_1 v20 true (IntKind.i64.wrap (u0_4 + (1 : Int))) u0_5 u0_6 r25.2.2.1
              else
               Option.bind (m_deadline_Check_Result r45.2) fun r55 =>
               s0 u0_0 u0_1 v20 (r55.1 == (0 : Int)) (IntKind.i64.wrap (u0_4 + (1 : Int))) u0_5 u0_6 r25.2.2.1
     else none
    else none)
  else
  Option.bind (m_ticketlinelaw33_known) fun r58 =>
  some r58
def m_ticketlinelaw33_DeadlineHolds_l0 (N : Nat) : Nat → Int → (List Int) → Int → Bool → Int → Int → Int → (List Int) → Option Bool
  | 0, _, _, _, _, _, _, _, _ => none
  | n + 1, u0_0, u0_1, u0_2, u0_3, u0_4, u0_5, u0_6, u0_7 => m_ticketlinelaw33_DeadlineHolds_l0_b (m_ticketlinelaw33_DeadlineHolds_l0 N n) u0_0 u0_1 u0_2 u0_3 u0_4 u0_5 u0_6 u0_7
def m_ticketlinelaw33_DeadlineHolds_a (l0 : (Int → (List Int) → Int → Bool → Int → Int → Int → (List Int) → Option Bool)) (x0 : Int) (x1 : (List Int)) : Option Bool :=
  Option.bind (m_ticketlinelaw33_given) fun r1 =>
  if (decide ((x1.length : Int) > (20 : Int))) = true then
  Option.bind (m_ticketlinelaw33_known) fun r4 =>
  some r4
  else
  if (decide (x0 < (1 : Int))) = true then
   Option.bind (m_ticketlinelaw33_known) fun r6 =>
   some r6
  else
   if (decide (x0 > (1099511627776 : Int))) = true then
    Option.bind (m_ticketlinelaw33_known) fun r8 =>
    some r8
   else
    Option.bind (m_descend_Format r1) fun r9 =>
    (match r9.1 with
    | none =>
     some false
    | some y10 =>
     if (r9.2 != (0 : Int)) = true then
      some false
     else
      l0 x0 x1 (0 : Int) false (0 : Int) r1.1 r1.2.1 y10.1)
def m_ticketlinelaw33_DeadlineHolds (x0 : Int) (x1 : (List Int)) : Option Bool := m_ticketlinelaw33_DeadlineHolds_a (m_ticketlinelaw33_DeadlineHolds_l0 FUEL FUEL) x0 x1
end Go.Ev.M
