/- A part of the proof of a statement of this seat: the plain models of the functions. No condition. -/
import Derived.Test.YtiknbfledplnlaaM14
import Derived.Test.YtiknbfledplnlaaMA
set_option linter.unusedVariables false
namespace Go.Ev.M
open Go Go.Ev
def m_descend_valid (x0 : (Int × (Int × Unit))) : Option Bool :=
  if (decide (x0.1 ≥ (1 : Int))) = true then
  if (decide (x0.1 ≤ (511 : Int))) = true then
   if (decide (x0.2.1 ≥ (1 : Int))) = true then
    some (decide (x0.2.1 ≤ (17 : Int)))
   else
    some false
  else
   some false
  else
  some false
def m_descend_nodes (x0 : (Int × (Int × Unit))) : Option Int :=
  some (IntKind.i64.wrap ((16 : Int) + (IntKind.i64.wrap ((128 : Int) * x0.1))))
def m_descend_Words (x0 : (Int × (Int × Unit))) : Option (Int × Int) :=
  Option.bind (m_descend_valid x0) fun r1 =>
  if (!r1) = true then
  some ((0 : Int), (2 : Int))
  else
  Option.bind (m_descend_nodes x0) fun r2 =>
  some ((IntKind.i64.wrap (r2 + (IntKind.i64.wrap ((IntKind.i64.wrap (x0.2.1 * (2 : Int))) * (3 : Int))))), (0 : Int))
def m_descend_Format (x0 : (Int × (Int × Unit))) : Option ((Option ((List Int) × Unit)) × Int) :=
  Option.bind (m_descend_Words x0) fun r1 =>
  if (r1.2 != (0 : Int)) = true then
  some (none, r1.2)
  else
  Option.bind (m_mem_New r1.1) fun r3 =>
  (match r3.1 with
  | none =>
   if (r3.2 != (0 : Int)) = true then
    some (none, r3.2)
   else none
  | some y4 =>
   if (r3.2 != (0 : Int)) = true then
    some (none, r3.2)
   else
    Option.bind (m_arena_Format (y4.1, ()) x0.1) fun r7 =>
    (match r7.1 with
    | none =>
     if (r7.2.1 != (0 : Int)) = true then
      some (none, r7.2.1)
     else
      Option.bind (m_slot_Make (0 : Int) (⟨#[]⟩ : ByteArray) (⟨#[]⟩ : ByteArray)) fun r10 =>
      if (r10.2 != (0 : Int)) = true then
       some (none, r10.2)
      else none
    | some y8 =>
     if (r7.2.1 != (0 : Int)) = true then
      some (none, r7.2.1)
     else
      Option.bind (m_slot_Make (0 : Int) (⟨#[]⟩ : ByteArray) (⟨#[]⟩ : ByteArray)) fun r14 =>
      if (r14.2 != (0 : Int)) = true then
       some (none, r14.2)
      else
       Option.bind (m_arena_Arena_Alloc (((y8.1.1.1, ()), ()), ()) r14.1) fun r17 =>
       if (r17.2.1 != (0 : Int)) = true then
        some (none, r17.2.1)
       else
        Option.bind (m_arena_Arena_SetRoot (((r17.2.2.1.1.1, ()), ()), ()) r17.1) fun r19 =>
        if (r19.1 != (0 : Int)) = true then
         some (none, r19.1)
        else
         Option.bind (m_arena_Arena_Mem (((r19.2.1.1.1, ()), ()), ())) fun r21 =>
         (match r21.1 with
         | none =>
          some (none, (0 : Int))
         | some y22 =>
          some ((some (y22.1, ())), (0 : Int)))))
def m_deadline_allowed (x0 : (Int × (Int × Unit))) (x1 : Int) : Option Bool :=
  Option.bind (m_descend_Words x0) fun r1 =>
  if (r1.2 == (0 : Int)) = true then
  if (decide (x1 ≥ (0 : Int))) = true then
   some (decide (x1 ≤ (1099511627776 : Int)))
  else
   some false
  else
  some false
def m_deadline_NewCheck (x0 : (Int × (Int × Unit))) (x1 : Int) : Option ((Option (Bool × (Bool × (Int × (Int × Unit))))) × Int) :=
  Option.bind (m_deadline_allowed x0 x1) fun r1 =>
  if (!r1) = true then
  some (none, (2 : Int))
  else
  some ((some (true, (false, (x1, ((0 : Int), ()))))), (0 : Int))
def m_ticketlinelaw33_given : Option (Int × (Int × Unit)) :=
  some ((1 : Int), ((1 : Int), ()))
def m_deadline_Check_Done (x0 : (Bool × (Bool × (Int × (Int × Unit))))) : Option (Bool × (Bool × (Bool × (Int × (Int × Unit))))) :=
  if (!x0.1) = true then
  some (true, x0)
  else
  some (x0.2.1, x0)
def m_deadline_Check_over (x0 : (Bool × (Bool × (Int × (Int × Unit))))) : Option (Bool × (Bool × (Bool × (Int × (Int × Unit))))) :=
  if (!(!x0.1)) = true then
  some (x0.2.1, x0)
  else
  some (false, x0)
def m_deadline_Check_Tick (x0 : (Bool × (Bool × (Int × (Int × Unit))))) : Option (Int × (Bool × (Bool × (Int × (Int × Unit))))) :=
  Option.bind (m_deadline_Check_over x0) fun r1 =>
  if (!r1.1) = true then
  some ((0 : Int), r1.2)
  else
  some (r1.2.2.2.2.1, r1.2)
def m_clock_Passed (x0 : Int) (x1 : Int) : Option Bool :=
  if (decide (x0 < (4611686018427387904 : Int))) = true then
  some (decide (x1 > x0))
  else
  some false
def m_deadline_Check_Result (x0 : (Bool × (Bool × (Int × (Int × Unit))))) : Option (Int × (Bool × (Bool × (Int × (Int × Unit))))) :=
  Option.bind (m_deadline_Check_over x0) fun r1 =>
  if (!r1.1) = true then
  some ((0 : Int), r1.2)
  else
  if (decide (r1.2.2.2.1 > (0 : Int))) = true then
   Option.bind (m_clock_Passed r1.2.2.2.1 r1.2.2.2.2.1) fun r3 =>
   if r3 = true then
    some ((0 : Int), r1.2)
   else
    some ((1 : Int), r1.2)
  else
   some ((1 : Int), r1.2)
def m_ticketlinelaw33_looks (x0 : ((List Int) × Unit)) (x1 : (Bool × (Bool × (Int × (Int × Unit))))) (x2 : Int) (x3 : Int) : Option (Bool × ((List Int) × Unit) × (Bool × (Bool × (Int × (Int × Unit))))) :=
  Option.bind (m_deadline_Check_Done x1) fun r1 =>
  if r1.1 = true then
  some (false, (x0.1, ()), r1.2)
  else
  Option.bind (m_deadline_Check_Result r1.2) fun r2 =>
  if (r2.1 != (0 : Int)) = true then
   some (false, (x0.1, ()), r2.2)
  else
   Option.bind (m_deadline_Check_Tick r2.2) fun r4 =>
   if (r4.1 != (0 : Int)) = true then
    some (false, (x0.1, ()), r4.2)
   else
    if ((x0.1.length : Int) == (0 : Int)) = true then
     some (false, (x0.1, ()), r4.2)
    else
     if (!r4.2.1) = true then
      if (!r4.2.1) = true then
       some (false, (x0.1, ()), r4.2)
      else
       if r4.2.2.1 = true then
        some (false, (x0.1, ()), r4.2)
       else
        Option.bind (m_mem_Mem_Load (x0.1, ()) (6 : Int)) fun r8 =>
        if (r8.2.1 != (0 : Int)) = true then
         some (false, (r8.2.2.1, ()), r4.2)
        else
         some (false, (r8.2.2.1, ()), (r4.2.1, (true, (r4.2.2.2.1, ((IntKind.i64.wrap (mn r8.1 (1099511627776 : Int))), ())))))
     else
      if r4.2.2.1 = true then
       if (!r4.2.1) = true then
        some (false, (x0.1, ()), r4.2)
       else
        if r4.2.2.1 = true then
         some (false, (x0.1, ()), r4.2)
        else
         Option.bind (m_mem_Mem_Load (x0.1, ()) (6 : Int)) fun r12 =>
         if (r12.2.1 != (0 : Int)) = true then
          some (false, (r12.2.2.1, ()), r4.2)
         else
          some (false, (r12.2.2.1, ()), (r4.2.1, (true, (r4.2.2.2.1, ((IntKind.i64.wrap (mn r12.1 (1099511627776 : Int))), ())))))
      else
       Option.bind (m_mem_Mem_Do (x0.1, ()) ((1 : Int), ((6 : Int), ((0 : Int), ((0 : Int), ()))))) fun r16 =>
       if (r16.2.1 == (0 : Int)) = true then
        if (r16.2.1 != (0 : Int)) = true then
         if (!r4.2.1) = true then
          if (r16.2.1 == (0 : Int)) = true then
           some (false, (r16.2.2.1, ()), r4.2)
          else
           some (false, (r16.2.2.1, ()), r4.2)
         else
          if r4.2.2.1 = true then
           if (r16.2.1 == (0 : Int)) = true then
            if (r16.1.1 == (1 : Int)) = true then
             if (r16.1.2.1 == (6 : Int)) = true then
              Option.bind (m_deadline_Check_Done r4.2) fun r23 =>
              if r23.1 = true then
               Option.bind (m_deadline_Check_Result r23.2) fun r24 =>
               if (r24.1 == x2) = true then
                Option.bind (m_deadline_Check_Tick r24.2) fun r25 =>
                some ((r25.1 == x3), (r16.2.2.1, ()), r25.2)
               else
                some (false, (r16.2.2.1, ()), r24.2)
              else
               some (false, (r16.2.2.1, ()), r23.2)
             else
              some (false, (r16.2.2.1, ()), r4.2)
            else
             some (false, (r16.2.2.1, ()), r4.2)
           else
            some (false, (r16.2.2.1, ()), r4.2)
          else
           Option.bind (m_mem_Mem_Load (r16.2.2.1, ()) (6 : Int)) fun r26 =>
           if (r26.2.1 != (0 : Int)) = true then
            if (r16.2.1 == (0 : Int)) = true then
             if (r26.2.1 == (17 : Int)) = true then
              if (r16.1.1 == (1 : Int)) = true then
               if (r16.1.2.1 == (6 : Int)) = true then
                Option.bind (m_deadline_Check_Done r4.2) fun r32 =>
                if r32.1 = true then
                 Option.bind (m_deadline_Check_Result r32.2) fun r33 =>
                 if (r33.1 == x2) = true then
                  Option.bind (m_deadline_Check_Tick r33.2) fun r34 =>
                  some ((r34.1 == x3), (r26.2.2.1, ()), r34.2)
                 else
                  some (false, (r26.2.2.1, ()), r33.2)
                else
                 some (false, (r26.2.2.1, ()), r32.2)
               else
                some (false, (r26.2.2.1, ()), r4.2)
              else
               some (false, (r26.2.2.1, ()), r4.2)
             else
              some (false, (r26.2.2.1, ()), r4.2)
            else
             some (false, (r26.2.2.1, ()), r4.2)
           else
            let v36 := (IntKind.i64.wrap (mn r26.1 (1099511627776 : Int)))
            if (r16.2.1 == (0 : Int)) = true then
             some (false, (r26.2.2.1, ()), (r4.2.1, (true, (r4.2.2.2.1, (v36, ())))))
            else
             some (false, (r26.2.2.1, ()), (r4.2.1, (true, (r4.2.2.2.1, (v36, ())))))
        else
         let v39 := (IntKind.i64.wrap (mn r16.1.2.2.1 (1099511627776 : Int)))
         if (!r4.2.1) = true then
          some (false, (r16.2.2.1, ()), (r4.2.1, (true, (r4.2.2.2.1, (v39, ())))))
         else
          if (r16.1.1 == (1 : Int)) = true then
           if (r16.1.2.1 == (6 : Int)) = true then
            Option.bind (m_deadline_Check_Done (r4.2.1, (true, (r4.2.2.2.1, (v39, ()))))) fun r42 =>
            if r42.1 = true then
             Option.bind (m_deadline_Check_Result r42.2) fun r43 =>
             if (r43.1 == x2) = true then
              Option.bind (m_deadline_Check_Tick r43.2) fun r44 =>
              some ((r44.1 == x3), (r16.2.2.1, ()), r44.2)
             else
              some (false, (r16.2.2.1, ()), r43.2)
            else
             some (false, (r16.2.2.1, ()), r42.2)
           else
            some (false, (r16.2.2.1, ()), (r4.2.1, (true, (r4.2.2.2.1, (v39, ())))))
          else
           some (false, (r16.2.2.1, ()), (r4.2.1, (true, (r4.2.2.2.1, (v39, ())))))
       else
        if (r16.2.1 != (0 : Int)) = true then
         if (!r4.2.1) = true then
          if (r16.2.1 == (0 : Int)) = true then
           some (false, (r16.2.2.1, ()), r4.2)
          else
           some (false, (r16.2.2.1, ()), r4.2)
         else
          if r4.2.2.1 = true then
           if (r16.2.1 == (0 : Int)) = true then
            some (false, (r16.2.2.1, ()), r4.2)
           else
            some (false, (r16.2.2.1, ()), r4.2)
          else
           Option.bind (m_mem_Mem_Load (r16.2.2.1, ()) (6 : Int)) fun r48 =>
           if (r48.2.1 != (0 : Int)) = true then
            if (r16.2.1 == (0 : Int)) = true then
             if (r48.2.1 == (17 : Int)) = true then
              some (false, (r48.2.2.1, ()), r4.2)
             else
              some (false, (r48.2.2.1, ()), r4.2)
            else
             some (false, (r48.2.2.1, ()), r4.2)
           else
            let v53 := (IntKind.i64.wrap (mn r48.1 (1099511627776 : Int)))
            if (r16.2.1 == (0 : Int)) = true then
             some (false, (r48.2.2.1, ()), (r4.2.1, (true, (r4.2.2.2.1, (v53, ())))))
            else
             some (false, (r48.2.2.1, ()), (r4.2.1, (true, (r4.2.2.2.1, (v53, ())))))
        else
         let v56 := (IntKind.i64.wrap (mn r16.1.2.2.1 (1099511627776 : Int)))
         if (!r4.2.1) = true then
          some (false, (r16.2.2.1, ()), (r4.2.1, (true, (r4.2.2.2.1, (v56, ())))))
         else
          some (false, (r16.2.2.1, ()), (r4.2.1, (true, (r4.2.2.2.1, (v56, ())))))
def m_ticketlinelaw33_check (x0 : ((List Int) × Unit)) (x1 : (Int × (Int × Unit))) (x2 : Int) (x3 : Int) (x4 : Int) : Option (Bool × ((List Int) × Unit)) :=
  Option.bind (m_deadline_NewCheck x1 x2) fun r1 =>
  (match r1.1 with
  | none =>
  some (false, (x0.1, ()))
  | some y2 =>
  if (r1.2 == (0 : Int)) = true then
   Option.bind (m_ticketlinelaw33_looks (x0.1, ()) y2 x3 x4) fun r4 =>
   some (r4.1, (r4.2.1.1, ()))
  else
   some (false, (x0.1, ())))
def m_ticketlinelaw33_known : Option Bool :=
  some true
end Go.Ev.M
