/- A part of the proof of a statement of this seat: the plain models of the functions. No condition. -/
import Derived.Test.YtbmdoalneeeonaaM14
import Derived.Test.YtbmdoalneeeonaaMA
set_option linter.unusedVariables false
namespace Go.Ev.M
open Go Go.Ev
def m_arena_Word (x0 : Int) (x1 : Int) : Option (Int × Int) :=
  if (decide (x0 < (1 : Int))) = true then
  some ((0 : Int), (3 : Int))
  else
  if (decide (x0 > (511 : Int))) = true then
   some ((0 : Int), (3 : Int))
  else
   if (decide (x1 < (0 : Int))) = true then
    some ((0 : Int), (3 : Int))
   else
    if (decide (x1 ≥ (128 : Int))) = true then
     some ((0 : Int), (3 : Int))
    else
     Option.bind (m_arena_place x0 x1) fun r5 =>
     some (r5, (0 : Int))
def m_ticketlinelaw20_word (x0 : Int) (x1 : Int) (x2 : Int) (x3 : Int) : Option Bool :=
  Option.bind (m_arena_Word x0 x1) fun r1 =>
  if (r1.1 == x2) = true then
  some (r1.2 == x3)
  else
  some false
def m_ticketlinelaw20_memory (x0 : Int) : Option ((List Int) × Unit) :=
  Option.bind (m_mem_New x0) fun r1 =>
  (match r1.1 with
  | none =>
  if (r1.2 != (0 : Int)) = true then
   none
  else none
  | some y2 =>
  if (r1.2 != (0 : Int)) = true then
   none
  else
   some (y2.1, ()))
def m_arena_Arena_free (x0 : ((((List Int) × Unit) × Unit) × Unit)) (x1 : Int) : Option ((((List Int) × Unit) × Unit) × Unit) :=
  Option.bind (m_mem_Mem_Load (x0.1.1.1, ()) (1 : Int)) fun r2 =>
  Option.bind (m_arena_Arena_put (((r2.2.2.1, ()), ()), ()) x1 (List.set (List.replicate 128 (0 : Int)) 10 r2.1)) fun r4 =>
  Option.bind (m_mem_Mem_Store (r4.1.1.1, ()) (1 : Int) (IntKind.u64.wrap x1)) fun r6 =>
  some (((r6.2.1, ()), ()), ())
def m_arena_Arena_Release (x0 : ((((List Int) × Unit) × Unit) × Unit)) (x1 : Int) : Option (Int × ((((List Int) × Unit) × Unit) × Unit)) :=
  Option.bind (m_arena_Arena_busy (((x0.1.1.1, ()), ()), ()) x1 true) fun r1 =>
  if (r1.1 == (0 : Int)) = true then
  Option.bind (m_arena_Arena_free (((r1.2.1.1.1, ()), ()), ()) x1) fun r3 =>
  some (r1.1, (((r3.1.1.1, ()), ()), ()))
  else
  some (r1.1, (((r1.2.1.1.1, ()), ()), ()))
def m_arena_Arena_Write (x0 : ((((List Int) × Unit) × Unit) × Unit)) (x1 : Int) (x2 : (List Int)) : Option (Int × ((((List Int) × Unit) × Unit) × Unit)) :=
  Option.bind (m_arena_Arena_busy (((x0.1.1.1, ()), ()), ()) x1 false) fun r1 =>
  if (r1.1 != (0 : Int)) = true then
  some (r1.1, (((r1.2.1.1.1, ()), ()), ()))
  else
  Option.bind (m_slot_Valid x2) fun r3 =>
  if (!r3) = true then
   some ((12 : Int), (((r1.2.1.1.1, ()), ()), ()))
  else
   Option.bind (m_arena_Arena_put (((r1.2.1.1.1, ()), ()), ()) x1 x2) fun r4 =>
   some ((0 : Int), (((r4.1.1.1, ()), ()), ()))
def m_arena_Arena_list_l0_b (s0 : (Int → Int → (List Int) → (List Int) → Option ((List Int) × Bool × ((((List Int) × Unit) × Unit) × Unit)))) (u0_0 : Int) (u0_1 : Int) (u0_2 : (List Int)) (u0_3 : (List Int)) : Option ((List Int) × Bool × ((((List Int) × Unit) × Unit) × Unit)) :=
  if (u0_1 != (0 : Int)) = true then
  Option.bind (m_arena_Arena_pages (((u0_3, ()), ()), ())) fun r3 =>
  if (decide (u0_1 > (IntKind.u64.wrap r3.1))) = true then
   some (([] : List Int), false, (((r3.2.1.1.1, ()), ()), ()))
  else
   Option.bind (m_arena_Arena_pages (((r3.2.1.1.1, ()), ()), ())) fun r7 =>
   if ((u0_2.length : Int) == r7.1) = true then
    some (([] : List Int), false, (((r7.2.1.1.1, ()), ()), ()))
   else
    Option.bind (m_arena_Arena_kind (((r7.2.1.1.1, ()), ()), ()) (IntKind.i64.wrap u0_1)) fun r9 =>
    if (r9.1 != u0_0) = true then
     some (([] : List Int), false, (((r9.2.1.1.1, ()), ()), ()))
    else
     let v11 := ([(IntKind.i64.wrap u0_1)] : List Int)
     if fits (List.length u0_2 + List.length v11) 8 then
      Option.bind (m_arena_place (IntKind.i64.wrap u0_1) (10 : Int)) fun r13 =>
      Option.bind (m_mem_Mem_Load (r9.2.1.1.1, ()) r13) fun r14 =>
      s0 u0_0 r14.1 (u0_2 ++ v11) r14.2.2.1
     else none
  else
  some (u0_2, true, (((u0_3, ()), ()), ()))
def m_arena_Arena_list_l0 (N : Nat) : Nat → Int → Int → (List Int) → (List Int) → Option ((List Int) × Bool × ((((List Int) × Unit) × Unit) × Unit))
  | 0, _, _, _, _ => none
  | n + 1, u0_0, u0_1, u0_2, u0_3 => m_arena_Arena_list_l0_b (m_arena_Arena_list_l0 N n) u0_0 u0_1 u0_2 u0_3
def m_arena_Arena_list_a (l0 : (Int → Int → (List Int) → (List Int) → Option ((List Int) × Bool × ((((List Int) × Unit) × Unit) × Unit)))) (x0 : ((((List Int) × Unit) × Unit) × Unit)) (x1 : Int) (x2 : Int) : Option ((List Int) × Bool × ((((List Int) × Unit) × Unit) × Unit)) :=
  Option.bind (m_mem_Mem_Load (x0.1.1.1, ()) x1) fun r1 =>
  l0 x2 r1.1 ([] : List Int) r1.2.2.1
def m_arena_Arena_list (x0 : ((((List Int) × Unit) × Unit) × Unit)) (x1 : Int) (x2 : Int) : Option ((List Int) × Bool × ((((List Int) × Unit) × Unit) × Unit)) := m_arena_Arena_list_a (m_arena_Arena_list_l0 FUEL FUEL) x0 x1 x2
def m_arena_Arena_Counts_l0_b (s0 : (Int → Int → Int → Int → (List Int) → Option (Int × Int × Int × Int × ((((List Int) × Unit) × Unit) × Unit)))) (u0_0 : Int) (u0_1 : Int) (u0_2 : Int) (u0_3 : Int) (u0_4 : (List Int)) : Option (Int × Int × Int × Int × ((((List Int) × Unit) × Unit) × Unit)) :=
  Option.bind (m_arena_Arena_pages (((u0_4, ()), ()), ())) fun r1 =>
  if (decide (u0_3 ≤ r1.1)) = true then
  Option.bind (m_arena_Arena_kind (((r1.2.1.1.1, ()), ()), ()) u0_3) fun r3 =>
  if (r3.1 == (0 : Int)) = true then
   s0 (IntKind.i64.wrap (u0_0 + (1 : Int))) u0_1 u0_2 (IntKind.i64.wrap (u0_3 + (1 : Int))) r3.2.1.1.1
  else
   Option.bind (m_arena_Arena_kind (((r3.2.1.1.1, ()), ()), ()) u0_3) fun r7 =>
   if (r7.1 == (255 : Int)) = true then
    s0 u0_0 u0_1 (IntKind.i64.wrap (u0_2 + (1 : Int))) (IntKind.i64.wrap (u0_3 + (1 : Int))) r7.2.1.1.1
   else
    Option.bind (m_arena_Arena_used (((r7.2.1.1.1, ()), ()), ()) u0_3) fun r11 =>
    if r11.1 = true then
     s0 u0_0 (IntKind.i64.wrap (u0_1 + (1 : Int))) u0_2 (IntKind.i64.wrap (u0_3 + (1 : Int))) r11.2.1.1.1
    else
     s0 u0_0 u0_1 u0_2 (IntKind.i64.wrap (u0_3 + (1 : Int))) r11.2.1.1.1
  else
  Option.bind (m_arena_Arena_pages (((r1.2.1.1.1, ()), ()), ())) fun r15 =>
  some (r15.1, u0_0, u0_1, u0_2, (((r15.2.1.1.1, ()), ()), ()))
def m_arena_Arena_Counts_l0 (N : Nat) : Nat → Int → Int → Int → Int → (List Int) → Option (Int × Int × Int × Int × ((((List Int) × Unit) × Unit) × Unit))
  | 0, _, _, _, _, _ => none
  | n + 1, u0_0, u0_1, u0_2, u0_3, u0_4 => m_arena_Arena_Counts_l0_b (m_arena_Arena_Counts_l0 N n) u0_0 u0_1 u0_2 u0_3 u0_4
def m_arena_Arena_Counts_a (l0 : (Int → Int → Int → Int → (List Int) → Option (Int × Int × Int × Int × ((((List Int) × Unit) × Unit) × Unit)))) (x0 : ((((List Int) × Unit) × Unit) × Unit)) : Option (Int × Int × Int × Int × ((((List Int) × Unit) × Unit) × Unit)) :=
  l0 (0 : Int) (0 : Int) (0 : Int) (1 : Int) x0.1.1.1
def m_arena_Arena_Counts (x0 : ((((List Int) × Unit) × Unit) × Unit)) : Option (Int × Int × Int × Int × ((((List Int) × Unit) × Unit) × Unit)) := m_arena_Arena_Counts_a (m_arena_Arena_Counts_l0 FUEL FUEL) x0
def m_arena_Arena_sound_l0_b (s0 : (Int → Int → Int → Int → (List Int) → (List Int) → Option (Bool × ((((List Int) × Unit) × Unit) × Unit)))) (u0_0 : Int) (u0_1 : Int) (u0_2 : Int) (u0_3 : Int) (u0_4 : (List Int)) (u0_5 : (List Int)) : Option (Bool × ((((List Int) × Unit) × Unit) × Unit)) :=
  if (decide (u0_3 < u0_2)) = true then
  if (0 : Int) ≤ u0_3 then
   if u0_3 < (u0_4.length : Int) then
    Option.bind (m_arena_place (rd (.int .i64) u0_4 u0_3) (11 : Int)) fun r15 =>
    Option.bind (m_mem_Mem_Load (u0_5, ()) r15) fun r16 =>
    if (decide (r16.1 < (1 : Int))) = true then
     some (false, (((r16.2.2.1, ()), ()), ()))
    else
     if (decide (r16.1 ≥ u0_1)) = true then
      some (false, (((r16.2.2.1, ()), ()), ()))
     else
      s0 u0_0 r16.1 u0_2 (IntKind.i64.wrap (u0_3 + (1 : Int))) u0_4 r16.2.2.1
   else none
  else none
  else
  Option.bind (m_mem_Mem_Load (u0_5, ()) (3 : Int)) fun r20 =>
  if (r20.1 == (0 : Int)) = true then
   some (true, (((r20.2.2.1, ()), ()), ()))
  else
   if (decide (r20.1 ≤ (IntKind.u64.wrap u0_0))) = true then
    Option.bind (m_arena_Arena_used (((r20.2.2.1, ()), ()), ()) (IntKind.i64.wrap r20.1)) fun r25 =>
    some (r25.1, (((r25.2.1.1.1, ()), ()), ()))
   else
    some (false, (((r20.2.2.1, ()), ()), ()))
def m_arena_Arena_sound_l0 (N : Nat) : Nat → Int → Int → Int → Int → (List Int) → (List Int) → Option (Bool × ((((List Int) × Unit) × Unit) × Unit))
  | 0, _, _, _, _, _, _ => none
  | n + 1, u0_0, u0_1, u0_2, u0_3, u0_4, u0_5 => m_arena_Arena_sound_l0_b (m_arena_Arena_sound_l0 N n) u0_0 u0_1 u0_2 u0_3 u0_4 u0_5
def m_arena_Arena_sound_a (l0 : (Int → Int → Int → Int → (List Int) → (List Int) → Option (Bool × ((((List Int) × Unit) × Unit) × Unit)))) (x0 : ((((List Int) × Unit) × Unit) × Unit)) : Option (Bool × ((((List Int) × Unit) × Unit) × Unit)) :=
  Option.bind (m_arena_Arena_list (((x0.1.1.1, ()), ()), ()) (1 : Int) (0 : Int)) fun r1 =>
  Option.bind (m_arena_Arena_list (((r1.2.2.1.1.1, ()), ()), ()) (2 : Int) (255 : Int)) fun r2 =>
  Option.bind (m_arena_Arena_Counts (((r2.2.2.1.1.1, ()), ()), ())) fun r3 =>
  Option.bind (m_mem_Mem_Load (r3.2.2.2.2.1.1.1, ()) (4 : Int)) fun r4 =>
  if (!r1.2.1) = true then
  some (false, (((r4.2.2.1, ()), ()), ()))
  else
  if (!r2.2.1) = true then
   some (false, (((r4.2.2.1, ()), ()), ()))
  else
   if ((r1.1.length : Int) != r3.2.1) = true then
    some (false, (((r4.2.2.1, ()), ()), ()))
   else
    if ((r2.1.length : Int) != r3.2.2.2.1) = true then
     some (false, (((r4.2.2.1, ()), ()), ()))
    else
     if ((IntKind.i64.wrap ((IntKind.i64.wrap (r3.2.1 + r3.2.2.1)) + r3.2.2.2.1)) != r3.1) = true then
      some (false, (((r4.2.2.1, ()), ()), ()))
     else
      if (decide (r4.1 < (1 : Int))) = true then
       some (false, (((r4.2.2.1, ()), ()), ()))
      else
       if (decide (r4.1 > (1099511627776 : Int))) = true then
        some (false, (((r4.2.2.1, ()), ()), ()))
       else
        l0 r3.1 r4.1 (r2.1.length : Int) (0 : Int) r2.1 r4.2.2.1
def m_arena_Arena_sound (x0 : ((((List Int) × Unit) × Unit) × Unit)) : Option (Bool × ((((List Int) × Unit) × Unit) × Unit)) := m_arena_Arena_sound_a (m_arena_Arena_sound_l0 FUEL FUEL) x0
def m_arena_Open (x0 : ((List Int) × Unit)) : Option ((Option ((((List Int) × Unit) × Unit) × Unit)) × Int × ((List Int) × Unit)) :=
  if ((x0.1.length : Int) == (0 : Int)) = true then
  some (none, (1 : Int), (x0.1, ()))
  else
  if ((x0.1.length : Int) == (0 : Int)) = true then
   some (none, (1 : Int), (x0.1, ()))
  else
   Option.bind (m_mem_Mem_Load (x0.1, ()) (0 : Int)) fun r5 =>
   if (r5.2.1 != (0 : Int)) = true then
    some (none, (12 : Int), (r5.2.2.1, ()))
   else
    if (decide (r5.1 < (1 : Int))) = true then
     some (none, (12 : Int), (r5.2.2.1, ()))
    else
     if (decide (r5.1 > (511 : Int))) = true then
      some (none, (12 : Int), (r5.2.2.1, ()))
     else
      Option.bind (m_arena_place (IntKind.i64.wrap ((IntKind.i64.wrap r5.1) + (1 : Int))) (0 : Int)) fun r11 =>
      if ((r5.2.2.1.length : Int) == (0 : Int)) = true then
       if (decide (r11 > (0 : Int))) = true then
        some (none, (12 : Int), (r5.2.2.1, ()))
       else
        Option.bind (m_mem_Mem_Copy (r5.2.2.1, ())) fun r15 =>
        Option.bind (m_arena_Arena_sound (((r15.1.1, ()), ()), ())) fun r16 =>
        if (!r16.1) = true then
         some (none, (12 : Int), (r15.2.1, ()))
        else
         some ((some (((r16.2.1.1.1, ()), ()), ())), (0 : Int), (r15.2.1, ()))
      else
       if (decide (r11 > (r5.2.2.1.length : Int))) = true then
        some (none, (12 : Int), (r5.2.2.1, ()))
       else
        Option.bind (m_mem_Mem_Copy (r5.2.2.1, ())) fun r19 =>
        Option.bind (m_arena_Arena_sound (((r19.1.1, ()), ()), ())) fun r20 =>
        if (!r20.1) = true then
         some (none, (12 : Int), (r19.2.1, ()))
        else
         some ((some (((r20.2.1.1.1, ()), ()), ())), (0 : Int), (r19.2.1, ()))
def m_ticketlinelaw20_counts (x0 : ((((List Int) × Unit) × Unit) × Unit)) (x1 : Int) (x2 : Int) (x3 : Int) (x4 : Int) : Option (Bool × ((((List Int) × Unit) × Unit) × Unit)) :=
  Option.bind (m_arena_Arena_Counts (((x0.1.1.1, ()), ()), ())) fun r1 =>
  if (r1.1 == x1) = true then
  if (r1.2.1 == x2) = true then
   if (r1.2.2.1 == x3) = true then
    some ((r1.2.2.2.1 == x4), (((r1.2.2.2.2.1.1.1, ()), ()), ()))
   else
    some (false, (((r1.2.2.2.2.1.1.1, ()), ()), ()))
  else
   some (false, (((r1.2.2.2.2.1.1.1, ()), ()), ()))
  else
  some (false, (((r1.2.2.2.2.1.1.1, ()), ()), ()))
def m_ticketlinelaw20_fails (x0 : (Option ((((List Int) × Unit) × Unit) × Unit))) (x1 : Int) (x2 : Int) : Option (Bool × (Option ((((List Int) × Unit) × Unit) × Unit))) :=
  (match x0 with
  | none =>
  some ((x1 == x2), none)
  | some y1 =>
  some (false, (some (((y1.1.1.1, ()), ()), ()))))
def m_ticketlinelaw20_allocs (x0 : ((((List Int) × Unit) × Unit) × Unit)) (x1 : (List Int)) (x2 : Int) (x3 : Int) : Option (Bool × ((((List Int) × Unit) × Unit) × Unit)) :=
  Option.bind (m_arena_Arena_Alloc (((x0.1.1.1, ()), ()), ()) x1) fun r1 =>
  if (r1.1 == x2) = true then
  some ((r1.2.1 == x3), (((r1.2.2.1.1.1, ()), ()), ()))
  else
  some (false, (((r1.2.2.1.1.1, ()), ()), ()))
def m_arena_Arena_Defer (x0 : ((((List Int) × Unit) × Unit) × Unit)) (x1 : Int) : Option (Int × Int × ((((List Int) × Unit) × Unit) × Unit)) :=
  Option.bind (m_arena_Arena_busy (((x0.1.1.1, ()), ()), ()) x1 true) fun r1 =>
  if (r1.1 != (0 : Int)) = true then
  some ((0 : Int), r1.1, (((r1.2.1.1.1, ()), ()), ()))
  else
  Option.bind (m_mem_Mem_Load (r1.2.1.1.1, ()) (4 : Int)) fun r3 =>
  if (r3.1 == (1099511627776 : Int)) = true then
   some ((0 : Int), (17 : Int), (((r3.2.2.1, ()), ()), ()))
  else
   Option.bind (m_mem_Mem_Load (r3.2.2.1, ()) (2 : Int)) fun r6 =>
   Option.bind (m_arena_Arena_put (((r6.2.2.1, ()), ()), ()) x1 (List.set (List.set (List.set (List.replicate 128 (0 : Int)) 8 (255 : Int)) 10 r6.1) 11 r3.1)) fun r10 =>
   Option.bind (m_mem_Mem_Store (r10.1.1.1, ()) (2 : Int) (IntKind.u64.wrap x1)) fun r12 =>
   Option.bind (m_mem_Mem_Store (r12.2.1, ()) (4 : Int) (IntKind.u64.wrap (r3.1 + (1 : Int)))) fun r14 =>
   some ((IntKind.i64.wrap r3.1), (0 : Int), (((r14.2.1, ()), ()), ()))
def m_ticketlinelaw20_defers (x0 : ((((List Int) × Unit) × Unit) × Unit)) (x1 : Int) (x2 : Int) (x3 : Int) : Option (Bool × ((((List Int) × Unit) × Unit) × Unit)) :=
  Option.bind (m_arena_Arena_Defer (((x0.1.1.1, ()), ()), ()) x1) fun r1 =>
  if (r1.1 == x2) = true then
  some ((r1.2.1 == x3), (((r1.2.2.1.1.1, ()), ()), ()))
  else
  some (false, (((r1.2.2.1.1.1, ()), ()), ()))
def m_arena_Arena_Reclaim_l0_b (s0 : (Int → Int → Int → Int → Int → (List Int) → (List Int) → Option (Int × Int × ((((List Int) × Unit) × Unit) × Unit)))) (u0_0 : Int) (u0_1 : Int) (u0_2 : Int) (u0_3 : Int) (u0_4 : Int) (u0_5 : (List Int)) (u0_6 : (List Int)) : Option (Int × Int × ((((List Int) × Unit) × Unit) × Unit)) :=
  if (decide (u0_4 < u0_3)) = true then
  if (0 : Int) ≤ u0_4 then
   if u0_4 < (u0_5.length : Int) then
    let v6 := (rd (.int .i64) u0_5 u0_4)
    Option.bind (m_arena_place v6 (11 : Int)) fun r7 =>
    Option.bind (m_mem_Mem_Load (u0_6, ()) r7) fun r8 =>
    if (decide (r8.1 ≥ (IntKind.u64.wrap u0_0))) = true then
     Option.bind (m_arena_place v6 (10 : Int)) fun r11 =>
     s0 u0_0 r11 u0_2 u0_3 (IntKind.i64.wrap (u0_4 + (1 : Int))) u0_5 r8.2.2.1
    else
     Option.bind (m_arena_place v6 (10 : Int)) fun r13 =>
     Option.bind (m_mem_Mem_Load (r8.2.2.1, ()) r13) fun r14 =>
     Option.bind (m_mem_Mem_Store (r14.2.2.1, ()) u0_1 r14.1) fun r15 =>
     Option.bind (m_arena_Arena_free (((r15.2.1, ()), ()), ()) v6) fun r16 =>
     s0 u0_0 u0_1 (IntKind.i64.wrap (u0_2 + (1 : Int))) u0_3 (IntKind.i64.wrap (u0_4 + (1 : Int))) u0_5 r16.1.1.1
   else none
  else none
  else
  some (u0_2, (0 : Int), (((u0_6, ()), ()), ()))
def m_arena_Arena_Reclaim_l0 (N : Nat) : Nat → Int → Int → Int → Int → Int → (List Int) → (List Int) → Option (Int × Int × ((((List Int) × Unit) × Unit) × Unit))
  | 0, _, _, _, _, _, _, _ => none
  | n + 1, u0_0, u0_1, u0_2, u0_3, u0_4, u0_5, u0_6 => m_arena_Arena_Reclaim_l0_b (m_arena_Arena_Reclaim_l0 N n) u0_0 u0_1 u0_2 u0_3 u0_4 u0_5 u0_6
def m_arena_Arena_Reclaim_a (l0 : (Int → Int → Int → Int → Int → (List Int) → (List Int) → Option (Int × Int × ((((List Int) × Unit) × Unit) × Unit)))) (x0 : ((((List Int) × Unit) × Unit) × Unit)) (x1 : Int) : Option (Int × Int × ((((List Int) × Unit) × Unit) × Unit)) :=
  if (decide (x1 < (0 : Int))) = true then
  some ((0 : Int), (2 : Int), (((x0.1.1.1, ()), ()), ()))
  else
  if (decide (x1 > (1099511627776 : Int))) = true then
   some ((0 : Int), (2 : Int), (((x0.1.1.1, ()), ()), ()))
  else
   Option.bind (m_arena_Arena_list (((x0.1.1.1, ()), ()), ()) (2 : Int) (255 : Int)) fun r3 =>
   l0 x1 (2 : Int) (0 : Int) (r3.1.length : Int) (0 : Int) r3.1 r3.2.2.1.1.1
def m_arena_Arena_Reclaim (x0 : ((((List Int) × Unit) × Unit) × Unit)) (x1 : Int) : Option (Int × Int × ((((List Int) × Unit) × Unit) × Unit)) := m_arena_Arena_Reclaim_a (m_arena_Arena_Reclaim_l0 FUEL FUEL) x0 x1
def m_ticketlinelaw20_reclaims (x0 : ((((List Int) × Unit) × Unit) × Unit)) (x1 : Int) (x2 : Int) (x3 : Int) : Option (Bool × ((((List Int) × Unit) × Unit) × Unit)) :=
  Option.bind (m_arena_Arena_Reclaim (((x0.1.1.1, ()), ()), ()) x1) fun r1 =>
  if (r1.1 == x2) = true then
  some ((r1.2.1 == x3), (((r1.2.2.1.1.1, ()), ()), ()))
  else
  some (false, (((r1.2.2.1.1.1, ()), ()), ()))
def m_arena_Arena_Read_l0_b (s0 : (Int → Int → (List Int) → (List Int) → (List Int) → Option ((List Int) × Int × ((((List Int) × Unit) × Unit) × Unit)))) (u0_0 : Int) (u0_1 : Int) (u0_2 : (List Int)) (u0_3 : (List Int)) (u0_4 : (List Int)) : Option ((List Int) × Int × ((((List Int) × Unit) × Unit) × Unit)) :=
  if (decide (u0_1 < (128 : Int))) = true then
  Option.bind (m_arena_place u0_0 u0_1) fun r7 =>
  Option.bind (m_mem_Mem_Load (u0_4, ()) r7) fun r8 =>
  if (0 : Int) ≤ u0_1 then
   if u0_1 < (128 : Int) then
    s0 u0_0 (IntKind.i64.wrap (u0_1 + (1 : Int))) u0_2 (List.set u0_3 u0_1.toNat r8.1) r8.2.2.1
   else none
  else none
  else
  some (u0_3, (0 : Int), (((u0_4, ()), ()), ()))
def m_arena_Arena_Read_l0 (N : Nat) : Nat → Int → Int → (List Int) → (List Int) → (List Int) → Option ((List Int) × Int × ((((List Int) × Unit) × Unit) × Unit))
  | 0, _, _, _, _, _ => none
  | n + 1, u0_0, u0_1, u0_2, u0_3, u0_4 => m_arena_Arena_Read_l0_b (m_arena_Arena_Read_l0 N n) u0_0 u0_1 u0_2 u0_3 u0_4
def m_arena_Arena_Read_a (l0 : (Int → Int → (List Int) → (List Int) → (List Int) → Option ((List Int) × Int × ((((List Int) × Unit) × Unit) × Unit)))) (x0 : ((((List Int) × Unit) × Unit) × Unit)) (x1 : Int) : Option ((List Int) × Int × ((((List Int) × Unit) × Unit) × Unit)) :=
  let v2 := (List.replicate 128 (0 : Int))
  if (decide (x1 < (1 : Int))) = true then
  some (v2, (3 : Int), (((x0.1.1.1, ()), ()), ()))
  else
  Option.bind (m_arena_Arena_pages (((x0.1.1.1, ()), ()), ())) fun r4 =>
  if (decide (x1 > r4.1)) = true then
   some (v2, (3 : Int), (((r4.2.1.1.1, ()), ()), ()))
  else
   l0 x1 (0 : Int) (List.replicate 128 (0 : Int)) v2 r4.2.1.1.1
def m_arena_Arena_Read (x0 : ((((List Int) × Unit) × Unit) × Unit)) (x1 : Int) : Option ((List Int) × Int × ((((List Int) × Unit) × Unit) × Unit)) := m_arena_Arena_Read_a (m_arena_Arena_Read_l0 FUEL FUEL) x0 x1
def m_ticketlinelaw20_reads (x0 : ((((List Int) × Unit) × Unit) × Unit)) (x1 : Int) (x2 : (List Int)) (x3 : Int) : Option (Bool × ((((List Int) × Unit) × Unit) × Unit)) :=
  Option.bind (m_arena_Arena_Read (((x0.1.1.1, ()), ()), ()) x1) fun r1 =>
  if (Ty.beq (.arr 128 (.int .u64)) r1.1 x2) = true then
  some ((r1.2.1 == x3), (((r1.2.2.1.1.1, ()), ()), ()))
  else
  some (false, (((r1.2.2.1.1.1, ()), ()), ()))
def m_ticketlinelaw20_known : Option Bool :=
  some true
def m_ticketlinelaw20_ArenaWords (x0 : Int) (x1 : Int) : Option Bool :=
  if (decide (x0 < (1 : Int))) = true then
  Option.bind (m_ticketlinelaw20_word x0 x1 (0 : Int) (3 : Int)) fun r2 =>
  if r2 = true then
   Option.bind (m_ticketlinelaw20_known) fun r3 =>
   some r3
  else
   some false
  else
  if (decide (x0 > (511 : Int))) = true then
   Option.bind (m_ticketlinelaw20_word x0 x1 (0 : Int) (3 : Int)) fun r5 =>
   if r5 = true then
    Option.bind (m_ticketlinelaw20_known) fun r6 =>
    some r6
   else
    some false
  else
   if (decide (x1 < (0 : Int))) = true then
    Option.bind (m_ticketlinelaw20_word x0 x1 (0 : Int) (3 : Int)) fun r8 =>
    if r8 = true then
     Option.bind (m_ticketlinelaw20_known) fun r9 =>
     some r9
    else
     some false
   else
    if (decide (x1 > (127 : Int))) = true then
     Option.bind (m_ticketlinelaw20_word x0 x1 (0 : Int) (3 : Int)) fun r11 =>
     if r11 = true then
      Option.bind (m_ticketlinelaw20_known) fun r12 =>
      some r12
     else
      some false
    else
     Option.bind (m_ticketlinelaw20_word x0 x1 (IntKind.i64.wrap ((IntKind.i64.wrap ((16 : Int) + (IntKind.i64.wrap ((128 : Int) * (IntKind.i64.wrap (x0 - (1 : Int))))))) + x1)) (0 : Int)) fun r17 =>
     if r17 = true then
      Option.bind (m_ticketlinelaw20_known) fun r18 =>
      some r18
     else
      some false
def m_arena_Arena_Used_l0_b (s0 : (Int → (List Int) → (List Int) → Option ((List Int) × ((((List Int) × Unit) × Unit) × Unit)))) (u0_0 : Int) (u0_1 : (List Int)) (u0_2 : (List Int)) : Option ((List Int) × ((((List Int) × Unit) × Unit) × Unit)) :=
  Option.bind (m_arena_Arena_pages (((u0_2, ()), ()), ())) fun r1 =>
  if (decide (u0_0 ≤ r1.1)) = true then
  Option.bind (m_arena_Arena_used (((r1.2.1.1.1, ()), ()), ()) u0_0) fun r3 =>
  if r3.1 = true then
   let v4 := ([u0_0] : List Int)
   if fits (List.length u0_1 + List.length v4) 8 then
    s0 (IntKind.i64.wrap (u0_0 + (1 : Int))) (u0_1 ++ v4) r3.2.1.1.1
   else none
  else
   s0 (IntKind.i64.wrap (u0_0 + (1 : Int))) u0_1 r3.2.1.1.1
  else
  some (u0_1, (((r1.2.1.1.1, ()), ()), ()))
def m_arena_Arena_Used_l0 (N : Nat) : Nat → Int → (List Int) → (List Int) → Option ((List Int) × ((((List Int) × Unit) × Unit) × Unit))
  | 0, _, _, _ => none
  | n + 1, u0_0, u0_1, u0_2 => m_arena_Arena_Used_l0_b (m_arena_Arena_Used_l0 N n) u0_0 u0_1 u0_2
def m_arena_Arena_Used_a (l0 : (Int → (List Int) → (List Int) → Option ((List Int) × ((((List Int) × Unit) × Unit) × Unit)))) (x0 : ((((List Int) × Unit) × Unit) × Unit)) : Option ((List Int) × ((((List Int) × Unit) × Unit) × Unit)) :=
  l0 (1 : Int) ([] : List Int) x0.1.1.1
def m_arena_Arena_Used (x0 : ((((List Int) × Unit) × Unit) × Unit)) : Option ((List Int) × ((((List Int) × Unit) × Unit) × Unit)) := m_arena_Arena_Used_a (m_arena_Arena_Used_l0 FUEL FUEL) x0
def m_ticketlineref20_Arena_Pages (x0 : ((List Int) × Unit)) : Option (Int × ((List Int) × Unit)) :=
  if (0 : Int) < (x0.1.length : Int) then
  some ((IntKind.i64.wrap (rd (.int .u64) x0.1 (0 : Int))), (x0.1, ()))
  else none
def m_ticketlineref20_at (x0 : Int) (x1 : Int) : Option Int :=
  some (IntKind.i64.wrap ((IntKind.i64.wrap ((16 : Int) + (IntKind.i64.wrap ((128 : Int) * (IntKind.i64.wrap (x0 - (1 : Int))))))) + x1))
def m_ticketlineref20_Arena_Read_l0_b (s0 : (Int → Int → (List Int) → (List Int) → (List Int) → Option ((List Int) × Int × ((List Int) × Unit)))) (u0_0 : Int) (u0_1 : Int) (u0_2 : (List Int)) (u0_3 : (List Int)) (u0_4 : (List Int)) : Option ((List Int) × Int × ((List Int) × Unit)) :=
  if (decide (u0_1 < (128 : Int))) = true then
  Option.bind (m_ticketlineref20_at u0_0 u0_1) fun r7 =>
  if (0 : Int) ≤ r7 then
   if r7 < (u0_4.length : Int) then
    if (0 : Int) ≤ u0_1 then
     if u0_1 < (128 : Int) then
      s0 u0_0 (IntKind.i64.wrap (u0_1 + (1 : Int))) u0_2 (List.set u0_3 u0_1.toNat (rd (.int .u64) u0_4 r7)) u0_4
     else none
    else none
   else none
  else none
  else
  some (u0_3, (0 : Int), (u0_4, ()))
def m_ticketlineref20_Arena_Read_l0 (N : Nat) : Nat → Int → Int → (List Int) → (List Int) → (List Int) → Option ((List Int) × Int × ((List Int) × Unit))
  | 0, _, _, _, _, _ => none
  | n + 1, u0_0, u0_1, u0_2, u0_3, u0_4 => m_ticketlineref20_Arena_Read_l0_b (m_ticketlineref20_Arena_Read_l0 N n) u0_0 u0_1 u0_2 u0_3 u0_4
def m_ticketlineref20_Arena_Read_a (l0 : (Int → Int → (List Int) → (List Int) → (List Int) → Option ((List Int) × Int × ((List Int) × Unit)))) (x0 : ((List Int) × Unit)) (x1 : Int) : Option ((List Int) × Int × ((List Int) × Unit)) :=
  let v2 := (List.replicate 128 (0 : Int))
  if (decide (x1 < (1 : Int))) = true then
  some (v2, (3 : Int), (x0.1, ()))
  else
  Option.bind (m_ticketlineref20_Arena_Pages (x0.1, ())) fun r4 =>
  if (decide (x1 > r4.1)) = true then
   some (v2, (3 : Int), (r4.2.1, ()))
  else
   l0 x1 (0 : Int) (List.replicate 128 (0 : Int)) v2 r4.2.1
def m_ticketlineref20_Arena_Read (x0 : ((List Int) × Unit)) (x1 : Int) : Option ((List Int) × Int × ((List Int) × Unit)) := m_ticketlineref20_Arena_Read_a (m_ticketlineref20_Arena_Read_l0 FUEL FUEL) x0 x1
def m_ticketlineref20_Arena_Of_l0_b (s0 : (Int → Int → Int → Int → (List Int) → Option (Int × ((List Int) × Unit)))) (u0_0 : Int) (u0_1 : Int) (u0_2 : Int) (u0_3 : Int) (u0_4 : (List Int)) : Option (Int × ((List Int) × Unit)) :=
  Option.bind (m_ticketlineref20_Arena_Pages (u0_4, ())) fun r1 =>
  if (decide (u0_3 ≤ r1.1)) = true then
  Option.bind (m_ticketlineref20_at u0_3 (8 : Int)) fun r3 =>
  if (0 : Int) ≤ r3 then
   if r3 < (r1.2.1.length : Int) then
    let v4 := (rd (.int .u64) r1.2.1 r3)
    if (decide (v4 ≥ u0_0)) = true then
     if (decide (v4 ≤ u0_1)) = true then
      s0 u0_0 u0_1 (IntKind.i64.wrap (u0_2 + (1 : Int))) (IntKind.i64.wrap (u0_3 + (1 : Int))) r1.2.1
     else
      s0 u0_0 u0_1 u0_2 (IntKind.i64.wrap (u0_3 + (1 : Int))) r1.2.1
    else
     s0 u0_0 u0_1 u0_2 (IntKind.i64.wrap (u0_3 + (1 : Int))) r1.2.1
   else none
  else none
  else
  some (u0_2, (r1.2.1, ()))
def m_ticketlineref20_Arena_Of_l0 (N : Nat) : Nat → Int → Int → Int → Int → (List Int) → Option (Int × ((List Int) × Unit))
  | 0, _, _, _, _, _ => none
  | n + 1, u0_0, u0_1, u0_2, u0_3, u0_4 => m_ticketlineref20_Arena_Of_l0_b (m_ticketlineref20_Arena_Of_l0 N n) u0_0 u0_1 u0_2 u0_3 u0_4
def m_ticketlineref20_Arena_Of_a (l0 : (Int → Int → Int → Int → (List Int) → Option (Int × ((List Int) × Unit)))) (x0 : ((List Int) × Unit)) (x1 : Int) (x2 : Int) : Option (Int × ((List Int) × Unit)) :=
  l0 x1 x2 (0 : Int) (1 : Int) x0.1
def m_ticketlineref20_Arena_Of (x0 : ((List Int) × Unit)) (x1 : Int) (x2 : Int) : Option (Int × ((List Int) × Unit)) := m_ticketlineref20_Arena_Of_a (m_ticketlineref20_Arena_Of_l0 FUEL FUEL) x0 x1 x2
def m_ticketlinelaw20_alike_l1_b (s1 : (Int → Int → (List Int) → (List Int) → (List Int) → Option (Bool × ((((List Int) × Unit) × Unit) × Unit) × ((List Int) × Unit)))) (u1_0 : Int) (u1_1 : Int) (u1_2 : (List Int)) (u1_3 : (List Int)) (u1_4 : (List Int)) : Option (Bool × ((((List Int) × Unit) × Unit) × Unit) × ((List Int) × Unit)) :=
  Option.bind (m_ticketlineref20_Arena_Pages (u1_4, ())) fun r23 =>
  if (decide (u1_1 ≤ r23.1)) = true then
  Option.bind (m_ticketlineref20_Arena_Read (r23.2.1, ()) u1_1) fun r25 =>
  Option.bind (m_ticketlinelaw20_reads (((u1_3, ()), ()), ()) u1_1 r25.1 (0 : Int)) fun r27 =>
  if (!r27.1) = true then
   some (false, (((r27.2.1.1.1, ()), ()), ()), (r25.2.2.1, ()))
  else
   if (decide ((rd (.int .u64) r25.1 (8 : Int)) ≥ (1 : Int))) = true then
    if (decide ((rd (.int .u64) r25.1 (8 : Int)) ≤ (6 : Int))) = true then
     if (decide (u1_0 ≥ (u1_2.length : Int))) = true then
      some (false, (((r27.2.1.1.1, ()), ()), ()), (r25.2.2.1, ()))
     else
      if (0 : Int) ≤ u1_0 then
       if u1_0 < (u1_2.length : Int) then
        if ((rd (.int .i64) u1_2 u1_0) != u1_1) = true then
         some (false, (((r27.2.1.1.1, ()), ()), ()), (r25.2.2.1, ()))
        else
         s1 (IntKind.i64.wrap (u1_0 + (1 : Int))) (IntKind.i64.wrap (u1_1 + (1 : Int))) u1_2 r27.2.1.1.1 r25.2.2.1
       else none
      else none
    else
     s1 u1_0 (IntKind.i64.wrap (u1_1 + (1 : Int))) u1_2 r27.2.1.1.1 r25.2.2.1
   else
    s1 u1_0 (IntKind.i64.wrap (u1_1 + (1 : Int))) u1_2 r27.2.1.1.1 r25.2.2.1
  else
  some ((u1_0 == (u1_2.length : Int)), (((u1_3, ()), ()), ()), (r23.2.1, ()))
def m_ticketlinelaw20_alike_l1 (N : Nat) : Nat → Int → Int → (List Int) → (List Int) → (List Int) → Option (Bool × ((((List Int) × Unit) × Unit) × Unit) × ((List Int) × Unit))
  | 0, _, _, _, _, _ => none
  | n + 1, u1_0, u1_1, u1_2, u1_3, u1_4 => m_ticketlinelaw20_alike_l1_b (m_ticketlinelaw20_alike_l1 N n) u1_0 u1_1 u1_2 u1_3 u1_4
def m_ticketlinelaw20_alike_l0_b (s0 : (Int → (List Int) → (List Int) → (List Int) → Option (Bool × ((((List Int) × Unit) × Unit) × Unit) × ((List Int) × Unit)))) (l1 : (Int → Int → (List Int) → (List Int) → (List Int) → Option (Bool × ((((List Int) × Unit) × Unit) × Unit) × ((List Int) × Unit)))) (u0_0 : Int) (u0_1 : (List Int)) (u0_2 : (List Int)) (u0_3 : (List Int)) : Option (Bool × ((((List Int) × Unit) × Unit) × Unit) × ((List Int) × Unit)) :=
  if (decide (u0_0 < (u0_1.length : Int))) = true then
  Option.bind (m_mem_Mem_Load (u0_3, ()) u0_0) fun r17 =>
  if (0 : Int) ≤ u0_0 then
   if u0_0 < (u0_1.length : Int) then
    if (r17.1 != (rd (.int .u64) u0_1 u0_0)) = true then
     some (false, (((u0_2, ()), ()), ()), (u0_1, ()))
    else
     if (r17.2.1 != (0 : Int)) = true then
      some (false, (((u0_2, ()), ()), ()), (u0_1, ()))
     else
      s0 (IntKind.i64.wrap (u0_0 + (1 : Int))) u0_1 u0_2 r17.2.2.1
   else none
  else none
  else
  Option.bind (m_mem_Mem_Store (u0_3, ()) (1 : Int) (77 : Int)) fun r21 =>
  Option.bind (m_arena_Arena_Used (((u0_2, ()), ()), ())) fun r22 =>
  l1 (0 : Int) (1 : Int) r22.1 r22.2.1.1.1 u0_1
def m_ticketlinelaw20_alike_l0 (N : Nat) : Nat → Int → (List Int) → (List Int) → (List Int) → Option (Bool × ((((List Int) × Unit) × Unit) × Unit) × ((List Int) × Unit))
  | 0, _, _, _, _ => none
  | n + 1, u0_0, u0_1, u0_2, u0_3 => m_ticketlinelaw20_alike_l0_b (m_ticketlinelaw20_alike_l0 N n) (m_ticketlinelaw20_alike_l1 N N) u0_0 u0_1 u0_2 u0_3
def m_ticketlinelaw20_alike_a (l0 : (Int → (List Int) → (List Int) → (List Int) → Option (Bool × ((((List Int) × Unit) × Unit) × Unit) × ((List Int) × Unit)))) (x0 : ((((List Int) × Unit) × Unit) × Unit)) (x1 : ((List Int) × Unit)) : Option (Bool × ((((List Int) × Unit) × Unit) × Unit) × ((List Int) × Unit)) :=
  Option.bind (m_ticketlineref20_Arena_Pages (x1.1, ())) fun r1 =>
  Option.bind (m_ticketlineref20_Arena_Of (r1.2.1, ()) (0 : Int) (0 : Int)) fun r2 =>
  Option.bind (m_ticketlineref20_Arena_Of (r2.2.1, ()) (1 : Int) (6 : Int)) fun r3 =>
  Option.bind (m_ticketlineref20_Arena_Of (r3.2.1, ()) (255 : Int) (255 : Int)) fun r4 =>
  Option.bind (m_ticketlinelaw20_counts (((x0.1.1.1, ()), ()), ()) r1.1 r2.1 r3.1 r4.1) fun r5 =>
  if (!r5.1) = true then
  some (false, (((r5.2.1.1.1, ()), ()), ()), (r4.2.1, ()))
  else
  Option.bind (m_arena_Arena_Root (((r5.2.1.1.1, ()), ()), ())) fun r6 =>
  if (3 : Int) < (r4.2.1.length : Int) then
   if (r6.1 != (IntKind.i64.wrap (rd (.int .u64) r4.2.1 (3 : Int)))) = true then
    some (false, (((r6.2.1.1.1, ()), ()), ()), (r4.2.1, ()))
   else
    Option.bind (m_arena_Arena_Mem (((r6.2.1.1.1, ()), ()), ())) fun r9 =>
    (match r9.1 with
    | none =>
     some (false, (((r9.2.1.1.1, ()), ()), ()), (r4.2.1, ()))
    | some y10 =>
     if ((y10.1.length : Int) == (0 : Int)) = true then
      if ((0 : Int) != (r4.2.1.length : Int)) = true then
       some (false, (((r9.2.1.1.1, ()), ()), ()), (r4.2.1, ()))
      else
       l0 (0 : Int) r4.2.1 r9.2.1.1.1 y10.1
     else
      if ((y10.1.length : Int) != (r4.2.1.length : Int)) = true then
       some (false, (((r9.2.1.1.1, ()), ()), ()), (r4.2.1, ()))
      else
       l0 (0 : Int) r4.2.1 r9.2.1.1.1 y10.1)
  else none
def m_ticketlinelaw20_alike (x0 : ((((List Int) × Unit) × Unit) × Unit)) (x1 : ((List Int) × Unit)) : Option (Bool × ((((List Int) × Unit) × Unit) × Unit) × ((List Int) × Unit)) := m_ticketlinelaw20_alike_a (m_ticketlinelaw20_alike_l0 FUEL FUEL) x0 x1
def m_ticketlineref20_Format_l1_b (s1 : (Int → Int → (List Int) → Option (Option ((List Int) × Unit)))) (u1_0 : Int) (u1_1 : Int) (u1_2 : (List Int)) : Option (Option ((List Int) × Unit)) :=
  if (decide (u1_1 < u1_0)) = true then
  Option.bind (m_ticketlineref20_at u1_1 (10 : Int)) fun r11 =>
  if (0 : Int) ≤ r11 then
   if r11 < (u1_2.length : Int) then
    s1 u1_0 (IntKind.i64.wrap (u1_1 + (1 : Int))) (List.set u1_2 r11.toNat (IntKind.u64.wrap (IntKind.i64.wrap (u1_1 + (1 : Int)))))
   else none
  else none
  else
  some (some (u1_2, ()))
def m_ticketlineref20_Format_l1 (N : Nat) : Nat → Int → Int → (List Int) → Option (Option ((List Int) × Unit))
  | 0, _, _, _ => none
  | n + 1, u1_0, u1_1, u1_2 => m_ticketlineref20_Format_l1_b (m_ticketlineref20_Format_l1 N n) u1_0 u1_1 u1_2
def m_ticketlineref20_Format_l0_b (s0 : (Int → Int → (List Int) → Option (Option ((List Int) × Unit)))) (l1 : (Int → Int → (List Int) → Option (Option ((List Int) × Unit)))) (u0_0 : Int) (u0_1 : Int) (u0_2 : (List Int)) : Option (Option ((List Int) × Unit)) :=
  if (decide (u0_1 < (IntKind.i64.wrap ((16 : Int) + (IntKind.i64.wrap ((128 : Int) * u0_0)))))) = true then
  if (0 : Int) ≤ u0_1 then
   if u0_1 < (u0_2.length : Int) then
    s0 u0_0 (IntKind.i64.wrap (u0_1 + (1 : Int))) (List.set u0_2 u0_1.toNat (0 : Int))
   else none
  else none
  else
  if (0 : Int) < (u0_2.length : Int) then
   let v7 := (List.set u0_2 0 (IntKind.u64.wrap u0_0))
   if (1 : Int) < (v7.length : Int) then
    let v8 := (List.set v7 1 (1 : Int))
    if (4 : Int) < (v8.length : Int) then
     l1 u0_0 (1 : Int) (List.set v8 4 (1 : Int))
    else none
   else none
  else none
def m_ticketlineref20_Format_l0 (N : Nat) : Nat → Int → Int → (List Int) → Option (Option ((List Int) × Unit))
  | 0, _, _, _ => none
  | n + 1, u0_0, u0_1, u0_2 => m_ticketlineref20_Format_l0_b (m_ticketlineref20_Format_l0 N n) (m_ticketlineref20_Format_l1 N N) u0_0 u0_1 u0_2
def m_ticketlineref20_Format_a (l0 : (Int → Int → (List Int) → Option (Option ((List Int) × Unit)))) (x0 : (List Int)) (x1 : Int) : Option (Option ((List Int) × Unit)) :=
  if fits (List.length x0) 8 then
  l0 x1 (0 : Int) x0
  else none
def m_ticketlineref20_Format (x0 : (List Int)) (x1 : Int) : Option (Option ((List Int) × Unit)) := m_ticketlineref20_Format_a (m_ticketlineref20_Format_l0 FUEL FUEL) x0 x1
def m_ticketlinelaw20_ArenaFormats (x0 : Int) (x1 : Int) : Option Bool :=
  if (decide (x0 < (1 : Int))) = true then
  Option.bind (m_ticketlinelaw20_known) fun r2 =>
  some r2
  else
  if (decide (x0 > (3000 : Int))) = true then
   Option.bind (m_ticketlinelaw20_known) fun r4 =>
   some r4
  else
   Option.bind (m_ticketlinelaw20_memory x0) fun r5 =>
   Option.bind (m_arena_Format (r5.1, ()) x1) fun r6 =>
   (match r6.1 with
   | none =>
    if (decide (x1 < (1 : Int))) = true then
     Option.bind (m_ticketlinelaw20_fails none r6.2.1 (2 : Int)) fun r9 =>
     if r9.1 = true then
      Option.bind (m_ticketlinelaw20_known) fun r10 =>
      some r10
     else
      some false
    else
     if (decide (x1 > (511 : Int))) = true then
      Option.bind (m_ticketlinelaw20_fails none r6.2.1 (2 : Int)) fun r12 =>
      if r12.1 = true then
       Option.bind (m_ticketlinelaw20_known) fun r13 =>
       some r13
      else
       some false
     else
      if (decide (x0 < (IntKind.i64.wrap ((16 : Int) + (IntKind.i64.wrap ((128 : Int) * x1)))))) = true then
       Option.bind (m_ticketlinelaw20_fails none r6.2.1 (2 : Int)) fun r17 =>
       if r17.1 = true then
        Option.bind (m_ticketlinelaw20_known) fun r18 =>
        some r18
       else
        some false
      else
       if (r6.2.1 == (0 : Int)) = true then
        if (0 : Int) ≤ x0 then
         if x0 ≤ x0 then
          if fits x0.toNat 8 then
           Option.bind (m_ticketlineref20_Format (List.replicate x0.toNat (0 : Int)) x1) fun r21 =>
           (match r21 with
           | none =>
            none
           | some y22 =>
            none)
          else none
         else none
        else none
       else
        some false
   | some y7 =>
    if (decide (x1 < (1 : Int))) = true then
     Option.bind (m_ticketlinelaw20_fails (some (((y7.1.1.1, ()), ()), ())) r6.2.1 (2 : Int)) fun r24 =>
     (match r24.2 with
     | none =>
      none
     | some y25 =>
      if r24.1 = true then
       Option.bind (m_ticketlinelaw20_known) fun r26 =>
       some r26
      else
       some false)
    else
     if (decide (x1 > (511 : Int))) = true then
      Option.bind (m_ticketlinelaw20_fails (some (((y7.1.1.1, ()), ()), ())) r6.2.1 (2 : Int)) fun r28 =>
      (match r28.2 with
      | none =>
       none
      | some y29 =>
       if r28.1 = true then
        Option.bind (m_ticketlinelaw20_known) fun r30 =>
        some r30
       else
        some false)
     else
      if (decide (x0 < (IntKind.i64.wrap ((16 : Int) + (IntKind.i64.wrap ((128 : Int) * x1)))))) = true then
       Option.bind (m_ticketlinelaw20_fails (some (((y7.1.1.1, ()), ()), ())) r6.2.1 (2 : Int)) fun r34 =>
       (match r34.2 with
       | none =>
        none
       | some y35 =>
        if r34.1 = true then
         Option.bind (m_ticketlinelaw20_known) fun r36 =>
         some r36
        else
         some false)
      else
       if (r6.2.1 == (0 : Int)) = true then
        if (0 : Int) ≤ x0 then
         if x0 ≤ x0 then
          if fits x0.toNat 8 then
           Option.bind (m_ticketlineref20_Format (List.replicate x0.toNat (0 : Int)) x1) fun r39 =>
           (match r39 with
           | none =>
            none
           | some y40 =>
            Option.bind (m_ticketlinelaw20_alike (((y7.1.1.1, ()), ()), ()) (y40.1, ())) fun r41 =>
            if r41.1 = true then
             Option.bind (m_ticketlinelaw20_known) fun r42 =>
             some r42
            else
             some false)
          else none
         else none
        else none
       else
        some false)
def m_ticketlinelaw20_ArenaMany_l1_b (s1 : (Int → Int → Int → Int → (List Int) → Option Bool)) (u1_0 : Int) (u1_1 : Int) (u1_2 : Int) (u1_3 : Int) (u1_4 : (List Int)) : Option Bool :=
  if (decide (u1_3 ≤ u1_0)) = true then
  Option.bind (m_arena_Arena_Release (((u1_4, ()), ()), ()) u1_3) fun r26 =>
  if (r26.1 != (0 : Int)) = true then
   some false
  else
   s1 u1_0 u1_1 (IntKind.i64.wrap (u1_2 + (1 : Int))) (IntKind.i64.wrap (u1_3 + (IntKind.i64.wrap u1_1))) r26.2.1.1.1
  else
  Option.bind (m_ticketlinelaw20_counts (((u1_4, ()), ()), ()) u1_0 u1_2 (IntKind.i64.wrap (u1_0 - u1_2)) (0 : Int)) fun r32 =>
  if r32.1 = true then
   Option.bind (m_arena_Arena_Used (((r32.2.1.1.1, ()), ()), ())) fun r33 =>
   if ((r33.1.length : Int) == (IntKind.i64.wrap (u1_0 - u1_2))) = true then
    Option.bind (m_ticketlinelaw20_known) fun r36 =>
    some r36
   else
    some false
  else
   some false
def m_ticketlinelaw20_ArenaMany_l1 (N : Nat) : Nat → Int → Int → Int → Int → (List Int) → Option Bool
  | 0, _, _, _, _, _ => none
  | n + 1, u1_0, u1_1, u1_2, u1_3, u1_4 => m_ticketlinelaw20_ArenaMany_l1_b (m_ticketlinelaw20_ArenaMany_l1 N n) u1_0 u1_1 u1_2 u1_3 u1_4
def m_ticketlinelaw20_ArenaMany_l0_b (s0 : (Int → Int → Int → (List Int) → (List Int) → Option Bool)) (l1 : (Int → Int → Int → Int → (List Int) → Option Bool)) (u0_0 : Int) (u0_1 : Int) (u0_2 : Int) (u0_3 : (List Int)) (u0_4 : (List Int)) : Option Bool :=
  if (decide (u0_2 ≤ u0_0)) = true then
  Option.bind (m_ticketlinelaw20_allocs (((u0_4, ()), ()), ()) u0_3 u0_2 (0 : Int)) fun r21 =>
  if (!r21.1) = true then
   some false
  else
   s0 u0_0 u0_1 (IntKind.i64.wrap (u0_2 + (1 : Int))) u0_3 r21.2.1.1.1
  else
  Option.bind (m_ticketlinelaw20_allocs (((u0_4, ()), ()), ()) u0_3 (0 : Int) (7 : Int)) fun r23 =>
  if (!r23.1) = true then
   some false
  else
   l1 u0_0 u0_1 (0 : Int) (IntKind.i64.wrap u0_1) r23.2.1.1.1
def m_ticketlinelaw20_ArenaMany_l0 (N : Nat) : Nat → Int → Int → Int → (List Int) → (List Int) → Option Bool
  | 0, _, _, _, _, _ => none
  | n + 1, u0_0, u0_1, u0_2, u0_3, u0_4 => m_ticketlinelaw20_ArenaMany_l0_b (m_ticketlinelaw20_ArenaMany_l0 N n) (m_ticketlinelaw20_ArenaMany_l1 N N) u0_0 u0_1 u0_2 u0_3 u0_4
def m_ticketlinelaw20_ArenaMany_a (l0 : (Int → Int → Int → (List Int) → (List Int) → Option Bool)) (x0 : Int) (x1 : Int) : Option Bool :=
  if (decide (x0 < (509 : Int))) = true then
  Option.bind (m_ticketlinelaw20_known) fun r2 =>
  some r2
  else
  if (decide (x0 > (513 : Int))) = true then
   Option.bind (m_ticketlinelaw20_known) fun r4 =>
   some r4
  else
   if (decide (x1 < (2 : Int))) = true then
    Option.bind (m_ticketlinelaw20_known) fun r6 =>
    some r6
   else
    Option.bind (m_ticketlinelaw20_memory (65536 : Int)) fun r7 =>
    Option.bind (m_arena_Format (r7.1, ()) x0) fun r8 =>
    (match r8.1 with
    | none =>
     if (decide (x0 > (511 : Int))) = true then
      Option.bind (m_ticketlinelaw20_fails none r8.2.1 (2 : Int)) fun r11 =>
      if r11.1 = true then
       Option.bind (m_ticketlinelaw20_known) fun r12 =>
       some r12
      else
       some false
     else
      some false
    | some y9 =>
     if (decide (x0 > (511 : Int))) = true then
      Option.bind (m_ticketlinelaw20_fails (some (((y9.1.1.1, ()), ()), ())) r8.2.1 (2 : Int)) fun r14 =>
      (match r14.2 with
      | none =>
       none
      | some y15 =>
       if r14.1 = true then
        Option.bind (m_ticketlinelaw20_known) fun r16 =>
        some r16
       else
        some false)
     else
      if (r8.2.1 != (0 : Int)) = true then
       some false
      else
       Option.bind (m_ticketlineref14_Empty (2 : Int) (⟨#[]⟩ : ByteArray) (⟨#[]⟩ : ByteArray)) fun r18 =>
       l0 x0 x1 (1 : Int) r18 y9.1.1.1)
def m_ticketlinelaw20_ArenaMany (x0 : Int) (x1 : Int) : Option Bool := m_ticketlinelaw20_ArenaMany_a (m_ticketlinelaw20_ArenaMany_l0 FUEL FUEL) x0 x1
end Go.Ev.M
