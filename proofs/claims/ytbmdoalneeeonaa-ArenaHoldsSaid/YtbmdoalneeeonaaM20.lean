/- A part of the proof of a statement of this seat: the plain models of the functions. No condition. -/
import Derived.Test.YtbmdoalneeeonaaM14
import Derived.Test.YtbmdoalneeeonaaMA
set_option linter.unusedVariables false
namespace Go.Ev.M
open Go Go.Ev
def m_arena_Word (x0 : Int) (x1 : Int) : Option (Int × Int) :=
  if (decide (x0 < (1 : Int))) = true then
  some ((0 : Int), (3 : Int))
  else
  if (decide (x0 > (511 : Int))) = true then
   some ((0 : Int), (3 : Int))
  else
   if (decide (x1 < (0 : Int))) = true then
    some ((0 : Int), (3 : Int))
   else
    if (decide (x1 ≥ (128 : Int))) = true then
     some ((0 : Int), (3 : Int))
    else
     Option.bind (m_arena_place x0 x1) fun r5 =>
     some (r5, (0 : Int))
def m_ticketlinelaw20_word (x0 : Int) (x1 : Int) (x2 : Int) (x3 : Int) : Option Bool :=
  Option.bind (m_arena_Word x0 x1) fun r1 =>
  if (r1.1 == x2) = true then
  some (r1.2 == x3)
  else
  some false
def m_ticketlinelaw20_memory (x0 : Int) : Option ((List Int) × Unit) :=
  Option.bind (m_mem_New x0) fun r1 =>
  (match r1.1 with
  | none =>
  if (r1.2 != (0 : Int)) = true then
   none
  else none
  | some y2 =>
  if (r1.2 != (0 : Int)) = true then
   none
  else
   some (y2.1, ()))
def m_arena_Arena_free (x0 : ((((List Int) × Unit) × Unit) × Unit)) (x1 : Int) : Option ((((List Int) × Unit) × Unit) × Unit) :=
  Option.bind (m_mem_Mem_Load (x0.1.1.1, ()) (1 : Int)) fun r2 =>
  Option.bind (m_arena_Arena_put (((r2.2.2.1, ()), ()), ()) x1 (List.set (List.replicate 128 (0 : Int)) 10 r2.1)) fun r4 =>
  Option.bind (m_mem_Mem_Store (r4.1.1.1, ()) (1 : Int) (IntKind.u64.wrap x1)) fun r6 =>
  some (((r6.2.1, ()), ()), ())
def m_arena_Arena_Release (x0 : ((((List Int) × Unit) × Unit) × Unit)) (x1 : Int) : Option (Int × ((((List Int) × Unit) × Unit) × Unit)) :=
  Option.bind (m_arena_Arena_busy (((x0.1.1.1, ()), ()), ()) x1 true) fun r1 =>
  if (r1.1 == (0 : Int)) = true then
  Option.bind (m_arena_Arena_free (((r1.2.1.1.1, ()), ()), ()) x1) fun r3 =>
  some (r1.1, (((r3.1.1.1, ()), ()), ()))
  else
  some (r1.1, (((r1.2.1.1.1, ()), ()), ()))
def m_arena_Arena_Write (x0 : ((((List Int) × Unit) × Unit) × Unit)) (x1 : Int) (x2 : (List Int)) : Option (Int × ((((List Int) × Unit) × Unit) × Unit)) :=
  Option.bind (m_arena_Arena_busy (((x0.1.1.1, ()), ()), ()) x1 false) fun r1 =>
  if (r1.1 != (0 : Int)) = true then
  some (r1.1, (((r1.2.1.1.1, ()), ()), ()))
  else
  Option.bind (m_slot_Valid x2) fun r3 =>
  if (!r3) = true then
   some ((12 : Int), (((r1.2.1.1.1, ()), ()), ()))
  else
   Option.bind (m_arena_Arena_put (((r1.2.1.1.1, ()), ()), ()) x1 x2) fun r4 =>
   some ((0 : Int), (((r4.1.1.1, ()), ()), ()))
def m_arena_Arena_list_l0_b (s0 : (Int → Int → (List Int) → (List Int) → Option ((List Int) × Bool × ((((List Int) × Unit) × Unit) × Unit)))) (u0_0 : Int) (u0_1 : Int) (u0_2 : (List Int)) (u0_3 : (List Int)) : Option ((List Int) × Bool × ((((List Int) × Unit) × Unit) × Unit)) :=
  if (u0_1 != (0 : Int)) = true then
  Option.bind (m_arena_Arena_pages (((u0_3, ()), ()), ())) fun r3 =>
  if (decide (u0_1 > (IntKind.u64.wrap r3.1))) = true then
   some (([] : List Int), false, (((r3.2.1.1.1, ()), ()), ()))
  else
   Option.bind (m_arena_Arena_pages (((r3.2.1.1.1, ()), ()), ())) fun r7 =>
   if ((u0_2.length : Int) == r7.1) = true then
    some (([] : List Int), false, (((r7.2.1.1.1, ()), ()), ()))
   else
    Option.bind (m_arena_Arena_kind (((r7.2.1.1.1, ()), ()), ()) (IntKind.i64.wrap u0_1)) fun r9 =>
    if (r9.1 != u0_0) = true then
     some (([] : List Int), false, (((r9.2.1.1.1, ()), ()), ()))
    else
     let v11 := ([(IntKind.i64.wrap u0_1)] : List Int)
     if fits (List.length u0_2 + List.length v11) 8 then
      Option.bind (m_arena_place (IntKind.i64.wrap u0_1) (10 : Int)) fun r13 =>
      Option.bind (m_mem_Mem_Load (r9.2.1.1.1, ()) r13) fun r14 =>
      s0 u0_0 r14.1 (u0_2 ++ v11) r14.2.2.1
     else none
  else
  some (u0_2, true, (((u0_3, ()), ()), ()))
def m_arena_Arena_list_l0 (N : Nat) : Nat → Int → Int → (List Int) → (List Int) → Option ((List Int) × Bool × ((((List Int) × Unit) × Unit) × Unit))
  | 0, _, _, _, _ => none
  | n + 1, u0_0, u0_1, u0_2, u0_3 => m_arena_Arena_list_l0_b (m_arena_Arena_list_l0 N n) u0_0 u0_1 u0_2 u0_3
def m_arena_Arena_list_a (l0 : (Int → Int → (List Int) → (List Int) → Option ((List Int) × Bool × ((((List Int) × Unit) × Unit) × Unit)))) (x0 : ((((List Int) × Unit) × Unit) × Unit)) (x1 : Int) (x2 : Int) : Option ((List Int) × Bool × ((((List Int) × Unit) × Unit) × Unit)) :=
  Option.bind (m_mem_Mem_Load (x0.1.1.1, ()) x1) fun r1 =>
  l0 x2 r1.1 ([] : List Int) r1.2.2.1
def m_arena_Arena_list (x0 : ((((List Int) × Unit) × Unit) × Unit)) (x1 : Int) (x2 : Int) : Option ((List Int) × Bool × ((((List Int) × Unit) × Unit) × Unit)) := m_arena_Arena_list_a (m_arena_Arena_list_l0 FUEL FUEL) x0 x1 x2
def m_arena_Arena_Counts_l0_b (s0 : (Int → Int → Int → Int → (List Int) → Option (Int × Int × Int × Int × ((((List Int) × Unit) × Unit) × Unit)))) (u0_0 : Int) (u0_1 : Int) (u0_2 : Int) (u0_3 : Int) (u0_4 : (List Int)) : Option (Int × Int × Int × Int × ((((List Int) × Unit) × Unit) × Unit)) :=
  Option.bind (m_arena_Arena_pages (((u0_4, ()), ()), ())) fun r1 =>
  if (decide (u0_3 ≤ r1.1)) = true then
  Option.bind (m_arena_Arena_kind (((r1.2.1.1.1, ()), ()), ()) u0_3) fun r3 =>
  if (r3.1 == (0 : Int)) = true then
   s0 (IntKind.i64.wrap (u0_0 + (1 : Int))) u0_1 u0_2 (IntKind.i64.wrap (u0_3 + (1 : Int))) r3.2.1.1.1
  else
   Option.bind (m_arena_Arena_kind (((r3.2.1.1.1, ()), ()), ()) u0_3) fun r7 =>
   if (r7.1 == (255 : Int)) = true then
    s0 u0_0 u0_1 (IntKind.i64.wrap (u0_2 + (1 : Int))) (IntKind.i64.wrap (u0_3 + (1 : Int))) r7.2.1.1.1
   else
    Option.bind (m_arena_Arena_used (((r7.2.1.1.1, ()), ()), ()) u0_3) fun r11 =>
    if r11.1 = true then
     s0 u0_0 (IntKind.i64.wrap (u0_1 + (1 : Int))) u0_2 (IntKind.i64.wrap (u0_3 + (1 : Int))) r11.2.1.1.1
    else
     s0 u0_0 u0_1 u0_2 (IntKind.i64.wrap (u0_3 + (1 : Int))) r11.2.1.1.1
  else
  Option.bind (m_arena_Arena_pages (((r1.2.1.1.1, ()), ()), ())) fun r15 =>
  some (r15.1, u0_0, u0_1, u0_2, (((r15.2.1.1.1, ()), ()), ()))
def m_arena_Arena_Counts_l0 (N : Nat) : Nat → Int → Int → Int → Int → (List Int) → Option (Int × Int × Int × Int × ((((List Int) × Unit) × Unit) × Unit))
  | 0, _, _, _, _, _ => none
  | n + 1, u0_0, u0_1, u0_2, u0_3, u0_4 => m_arena_Arena_Counts_l0_b (m_arena_Arena_Counts_l0 N n) u0_0 u0_1 u0_2 u0_3 u0_4
def m_arena_Arena_Counts_a (l0 : (Int → Int → Int → Int → (List Int) → Option (Int × Int × Int × Int × ((((List Int) × Unit) × Unit) × Unit)))) (x0 : ((((List Int) × Unit) × Unit) × Unit)) : Option (Int × Int × Int × Int × ((((List Int) × Unit) × Unit) × Unit)) :=
  l0 (0 : Int) (0 : Int) (0 : Int) (1 : Int) x0.1.1.1
def m_arena_Arena_Counts (x0 : ((((List Int) × Unit) × Unit) × Unit)) : Option (Int × Int × Int × Int × ((((List Int) × Unit) × Unit) × Unit)) := m_arena_Arena_Counts_a (m_arena_Arena_Counts_l0 FUEL FUEL) x0
def m_arena_Arena_sound_l0_b (s0 : (Int → Int → Int → Int → (List Int) → (List Int) → Option (Bool × ((((List Int) × Unit) × Unit) × Unit)))) (u0_0 : Int) (u0_1 : Int) (u0_2 : Int) (u0_3 : Int) (u0_4 : (List Int)) (u0_5 : (List Int)) : Option (Bool × ((((List Int) × Unit) × Unit) × Unit)) :=
  if (decide (u0_3 < u0_2)) = true then
  if (0 : Int) ≤ u0_3 then
   if u0_3 < (u0_4.length : Int) then
    Option.bind (m_arena_place (rd (.int .i64) u0_4 u0_3) (11 : Int)) fun r15 =>
    Option.bind (m_mem_Mem_Load (u0_5, ()) r15) fun r16 =>
    if (decide (r16.1 < (1 : Int))) = true then
     some (false, (((r16.2.2.1, ()), ()), ()))
    else
     if (decide (r16.1 ≥ u0_1)) = true then
      some (false, (((r16.2.2.1, ()), ()), ()))
     else
      s0 u0_0 r16.1 u0_2 (IntKind.i64.wrap (u0_3 + (1 : Int))) u0_4 r16.2.2.1
   else none
  else none
  else
  Option.bind (m_mem_Mem_Load (u0_5, ()) (3 : Int)) fun r20 =>
  if (r20.1 == (0 : Int)) = true then
   some (true, (((r20.2.2.1, ()), ()), ()))
  else
   if (decide (r20.1 ≤ (IntKind.u64.wrap u0_0))) = true then
    Option.bind (m_arena_Arena_used (((r20.2.2.1, ()), ()), ()) (IntKind.i64.wrap r20.1)) fun r25 =>
    some (r25.1, (((r25.2.1.1.1, ()), ()), ()))
   else
    some (false, (((r20.2.2.1, ()), ()), ()))
def m_arena_Arena_sound_l0 (N : Nat) : Nat → Int → Int → Int → Int → (List Int) → (List Int) → Option (Bool × ((((List Int) × Unit) × Unit) × Unit))
  | 0, _, _, _, _, _, _ => none
  | n + 1, u0_0, u0_1, u0_2, u0_3, u0_4, u0_5 => m_arena_Arena_sound_l0_b (m_arena_Arena_sound_l0 N n) u0_0 u0_1 u0_2 u0_3 u0_4 u0_5
def m_arena_Arena_sound_a (l0 : (Int → Int → Int → Int → (List Int) → (List Int) → Option (Bool × ((((List Int) × Unit) × Unit) × Unit)))) (x0 : ((((List Int) × Unit) × Unit) × Unit)) : Option (Bool × ((((List Int) × Unit) × Unit) × Unit)) :=
  Option.bind (m_arena_Arena_list (((x0.1.1.1, ()), ()), ()) (1 : Int) (0 : Int)) fun r1 =>
  Option.bind (m_arena_Arena_list (((r1.2.2.1.1.1, ()), ()), ()) (2 : Int) (255 : Int)) fun r2 =>
  Option.bind (m_arena_Arena_Counts (((r2.2.2.1.1.1, ()), ()), ())) fun r3 =>
  Option.bind (m_mem_Mem_Load (r3.2.2.2.2.1.1.1, ()) (4 : Int)) fun r4 =>
  if (!r1.2.1) = true then
  some (false, (((r4.2.2.1, ()), ()), ()))
  else
  if (!r2.2.1) = true then
   some (false, (((r4.2.2.1, ()), ()), ()))
  else
   if ((r1.1.length : Int) != r3.2.1) = true then
    some (false, (((r4.2.2.1, ()), ()), ()))
   else
    if ((r2.1.length : Int) != r3.2.2.2.1) = true then
     some (false, (((r4.2.2.1, ()), ()), ()))
    else
     if ((IntKind.i64.wrap ((IntKind.i64.wrap (r3.2.1 + r3.2.2.1)) + r3.2.2.2.1)) != r3.1) = true then
      some (false, (((r4.2.2.1, ()), ()), ()))
     else
      if (decide (r4.1 < (1 : Int))) = true then
       some (false, (((r4.2.2.1, ()), ()), ()))
      else
       if (decide (r4.1 > (1099511627776 : Int))) = true then
        some (false, (((r4.2.2.1, ()), ()), ()))
       else
        l0 r3.1 r4.1 (r2.1.length : Int) (0 : Int) r2.1 r4.2.2.1
def m_arena_Arena_sound (x0 : ((((List Int) × Unit) × Unit) × Unit)) : Option (Bool × ((((List Int) × Unit) × Unit) × Unit)) := m_arena_Arena_sound_a (m_arena_Arena_sound_l0 FUEL FUEL) x0
def m_arena_Open (x0 : ((List Int) × Unit)) : Option ((Option ((((List Int) × Unit) × Unit) × Unit)) × Int × ((List Int) × Unit)) :=
  if ((x0.1.length : Int) == (0 : Int)) = true then
  some (none, (1 : Int), (x0.1, ()))
  else
  if ((x0.1.length : Int) == (0 : Int)) = true then
   some (none, (1 : Int), (x0.1, ()))
  else
   Option.bind (m_mem_Mem_Load (x0.1, ()) (0 : Int)) fun r5 =>
   if (r5.2.1 != (0 : Int)) = true then
    some (none, (12 : Int), (r5.2.2.1, ()))
   else
    if (decide (r5.1 < (1 : Int))) = true then
     some (none, (12 : Int), (r5.2.2.1, ()))
    else
     if (decide (r5.1 > (511 : Int))) = true then
      some (none, (12 : Int), (r5.2.2.1, ()))
     else
      Option.bind (m_arena_place (IntKind.i64.wrap ((IntKind.i64.wrap r5.1) + (1 : Int))) (0 : Int)) fun r11 =>
      if ((r5.2.2.1.length : Int) == (0 : Int)) = true then
       if (decide (r11 > (0 : Int))) = true then
        some (none, (12 : Int), (r5.2.2.1, ()))
       else
        Option.bind (m_mem_Mem_Copy (r5.2.2.1, ())) fun r15 =>
        Option.bind (m_arena_Arena_sound (((r15.1.1, ()), ()), ())) fun r16 =>
        if (!r16.1) = true then
         some (none, (12 : Int), (r15.2.1, ()))
        else
         some ((some (((r16.2.1.1.1, ()), ()), ())), (0 : Int), (r15.2.1, ()))
      else
       if (decide (r11 > (r5.2.2.1.length : Int))) = true then
        some (none, (12 : Int), (r5.2.2.1, ()))
       else
        Option.bind (m_mem_Mem_Copy (r5.2.2.1, ())) fun r19 =>
        Option.bind (m_arena_Arena_sound (((r19.1.1, ()), ()), ())) fun r20 =>
        if (!r20.1) = true then
         some (none, (12 : Int), (r19.2.1, ()))
        else
         some ((some (((r20.2.1.1.1, ()), ()), ())), (0 : Int), (r19.2.1, ()))
def m_ticketlinelaw20_counts (x0 : ((((List Int) × Unit) × Unit) × Unit)) (x1 : Int) (x2 : Int) (x3 : Int) (x4 : Int) : Option (Bool × ((((List Int) × Unit) × Unit) × Unit)) :=
  Option.bind (m_arena_Arena_Counts (((x0.1.1.1, ()), ()), ())) fun r1 =>
  if (r1.1 == x1) = true then
  if (r1.2.1 == x2) = true then
   if (r1.2.2.1 == x3) = true then
    some ((r1.2.2.2.1 == x4), (((r1.2.2.2.2.1.1.1, ()), ()), ()))
   else
    some (false, (((r1.2.2.2.2.1.1.1, ()), ()), ()))
  else
   some (false, (((r1.2.2.2.2.1.1.1, ()), ()), ()))
  else
  some (false, (((r1.2.2.2.2.1.1.1, ()), ()), ()))
def m_ticketlinelaw20_fails (x0 : (Option ((((List Int) × Unit) × Unit) × Unit))) (x1 : Int) (x2 : Int) : Option (Bool × (Option ((((List Int) × Unit) × Unit) × Unit))) :=
  (match x0 with
  | none =>
  some ((x1 == x2), none)
  | some y1 =>
  some (false, (some (((y1.1.1.1, ()), ()), ()))))
def m_ticketlinelaw20_allocs (x0 : ((((List Int) × Unit) × Unit) × Unit)) (x1 : (List Int)) (x2 : Int) (x3 : Int) : Option (Bool × ((((List Int) × Unit) × Unit) × Unit)) :=
  Option.bind (m_arena_Arena_Alloc (((x0.1.1.1, ()), ()), ()) x1) fun r1 =>
  if (r1.1 == x2) = true then
  some ((r1.2.1 == x3), (((r1.2.2.1.1.1, ()), ()), ()))
  else
  some (false, (((r1.2.2.1.1.1, ()), ()), ()))
def m_arena_Arena_Defer (x0 : ((((List Int) × Unit) × Unit) × Unit)) (x1 : Int) : Option (Int × Int × ((((List Int) × Unit) × Unit) × Unit)) :=
  Option.bind (m_arena_Arena_busy (((x0.1.1.1, ()), ()), ()) x1 true) fun r1 =>
  if (r1.1 != (0 : Int)) = true then
  some ((0 : Int), r1.1, (((r1.2.1.1.1, ()), ()), ()))
  else
  Option.bind (m_mem_Mem_Load (r1.2.1.1.1, ()) (4 : Int)) fun r3 =>
  if (r3.1 == (1099511627776 : Int)) = true then
   some ((0 : Int), (17 : Int), (((r3.2.2.1, ()), ()), ()))
  else
   Option.bind (m_mem_Mem_Load (r3.2.2.1, ()) (2 : Int)) fun r6 =>
   Option.bind (m_arena_Arena_put (((r6.2.2.1, ()), ()), ()) x1 (List.set (List.set (List.set (List.replicate 128 (0 : Int)) 8 (255 : Int)) 10 r6.1) 11 r3.1)) fun r10 =>
   Option.bind (m_mem_Mem_Store (r10.1.1.1, ()) (2 : Int) (IntKind.u64.wrap x1)) fun r12 =>
   Option.bind (m_mem_Mem_Store (r12.2.1, ()) (4 : Int) (IntKind.u64.wrap (r3.1 + (1 : Int)))) fun r14 =>
   some ((IntKind.i64.wrap r3.1), (0 : Int), (((r14.2.1, ()), ()), ()))
def m_ticketlinelaw20_defers (x0 : ((((List Int) × Unit) × Unit) × Unit)) (x1 : Int) (x2 : Int) (x3 : Int) : Option (Bool × ((((List Int) × Unit) × Unit) × Unit)) :=
  Option.bind (m_arena_Arena_Defer (((x0.1.1.1, ()), ()), ()) x1) fun r1 =>
  if (r1.1 == x2) = true then
  some ((r1.2.1 == x3), (((r1.2.2.1.1.1, ()), ()), ()))
  else
  some (false, (((r1.2.2.1.1.1, ()), ()), ()))
def m_arena_Arena_Reclaim_l0_b (s0 : (Int → Int → Int → Int → Int → (List Int) → (List Int) → Option (Int × Int × ((((List Int) × Unit) × Unit) × Unit)))) (u0_0 : Int) (u0_1 : Int) (u0_2 : Int) (u0_3 : Int) (u0_4 : Int) (u0_5 : (List Int)) (u0_6 : (List Int)) : Option (Int × Int × ((((List Int) × Unit) × Unit) × Unit)) :=
  if (decide (u0_4 < u0_3)) = true then
  if (0 : Int) ≤ u0_4 then
   if u0_4 < (u0_5.length : Int) then
    let v6 := (rd (.int .i64) u0_5 u0_4)
    Option.bind (m_arena_place v6 (11 : Int)) fun r7 =>
    Option.bind (m_mem_Mem_Load (u0_6, ()) r7) fun r8 =>
    if (decide (r8.1 ≥ (IntKind.u64.wrap u0_0))) = true then
     Option.bind (m_arena_place v6 (10 : Int)) fun r11 =>
     s0 u0_0 r11 u0_2 u0_3 (IntKind.i64.wrap (u0_4 + (1 : Int))) u0_5 r8.2.2.1
    else
     Option.bind (m_arena_place v6 (10 : Int)) fun r13 =>
     Option.bind (m_mem_Mem_Load (r8.2.2.1, ()) r13) fun r14 =>
     Option.bind (m_mem_Mem_Store (r14.2.2.1, ()) u0_1 r14.1) fun r15 =>
     Option.bind (m_arena_Arena_free (((r15.2.1, ()), ()), ()) v6) fun r16 =>
     s0 u0_0 u0_1 (IntKind.i64.wrap (u0_2 + (1 : Int))) u0_3 (IntKind.i64.wrap (u0_4 + (1 : Int))) u0_5 r16.1.1.1
   else none
  else none
  else
  some (u0_2, (0 : Int), (((u0_6, ()), ()), ()))
def m_arena_Arena_Reclaim_l0 (N : Nat) : Nat → Int → Int → Int → Int → Int → (List Int) → (List Int) → Option (Int × Int × ((((List Int) × Unit) × Unit) × Unit))
  | 0, _, _, _, _, _, _, _ => none
  | n + 1, u0_0, u0_1, u0_2, u0_3, u0_4, u0_5, u0_6 => m_arena_Arena_Reclaim_l0_b (m_arena_Arena_Reclaim_l0 N n) u0_0 u0_1 u0_2 u0_3 u0_4 u0_5 u0_6
def m_arena_Arena_Reclaim_a (l0 : (Int → Int → Int → Int → Int → (List Int) → (List Int) → Option (Int × Int × ((((List Int) × Unit) × Unit) × Unit)))) (x0 : ((((List Int) × Unit) × Unit) × Unit)) (x1 : Int) : Option (Int × Int × ((((List Int) × Unit) × Unit) × Unit)) :=
  if (decide (x1 < (0 : Int))) = true then
  some ((0 : Int), (2 : Int), (((x0.1.1.1, ()), ()), ()))
  else
  if (decide (x1 > (1099511627776 : Int))) = true then
   some ((0 : Int), (2 : Int), (((x0.1.1.1, ()), ()), ()))
  else
   Option.bind (m_arena_Arena_list (((x0.1.1.1, ()), ()), ()) (2 : Int) (255 : Int)) fun r3 =>
   l0 x1 (2 : Int) (0 : Int) (r3.1.length : Int) (0 : Int) r3.1 r3.2.2.1.1.1
def m_arena_Arena_Reclaim (x0 : ((((List Int) × Unit) × Unit) × Unit)) (x1 : Int) : Option (Int × Int × ((((List Int) × Unit) × Unit) × Unit)) := m_arena_Arena_Reclaim_a (m_arena_Arena_Reclaim_l0 FUEL FUEL) x0 x1
def m_ticketlinelaw20_reclaims (x0 : ((((List Int) × Unit) × Unit) × Unit)) (x1 : Int) (x2 : Int) (x3 : Int) : Option (Bool × ((((List Int) × Unit) × Unit) × Unit)) :=
  Option.bind (m_arena_Arena_Reclaim (((x0.1.1.1, ()), ()), ()) x1) fun r1 =>
  if (r1.1 == x2) = true then
  some ((r1.2.1 == x3), (((r1.2.2.1.1.1, ()), ()), ()))
  else
  some (false, (((r1.2.2.1.1.1, ()), ()), ()))
def m_arena_Arena_Read_l0_b (s0 : (Int → Int → (List Int) → (List Int) → (List Int) → Option ((List Int) × Int × ((((List Int) × Unit) × Unit) × Unit)))) (u0_0 : Int) (u0_1 : Int) (u0_2 : (List Int)) (u0_3 : (List Int)) (u0_4 : (List Int)) : Option ((List Int) × Int × ((((List Int) × Unit) × Unit) × Unit)) :=
  if (decide (u0_1 < (128 : Int))) = true then
  Option.bind (m_arena_place u0_0 u0_1) fun r7 =>
  Option.bind (m_mem_Mem_Load (u0_4, ()) r7) fun r8 =>
  if (0 : Int) ≤ u0_1 then
   if u0_1 < (128 : Int) then
    s0 u0_0 (IntKind.i64.wrap (u0_1 + (1 : Int))) u0_2 (List.set u0_3 u0_1.toNat r8.1) r8.2.2.1
   else none
  else none
  else
  some (u0_3, (0 : Int), (((u0_4, ()), ()), ()))
def m_arena_Arena_Read_l0 (N : Nat) : Nat → Int → Int → (List Int) → (List Int) → (List Int) → Option ((List Int) × Int × ((((List Int) × Unit) × Unit) × Unit))
  | 0, _, _, _, _, _ => none
  | n + 1, u0_0, u0_1, u0_2, u0_3, u0_4 => m_arena_Arena_Read_l0_b (m_arena_Arena_Read_l0 N n) u0_0 u0_1 u0_2 u0_3 u0_4
def m_arena_Arena_Read_a (l0 : (Int → Int → (List Int) → (List Int) → (List Int) → Option ((List Int) × Int × ((((List Int) × Unit) × Unit) × Unit)))) (x0 : ((((List Int) × Unit) × Unit) × Unit)) (x1 : Int) : Option ((List Int) × Int × ((((List Int) × Unit) × Unit) × Unit)) :=
  let v2 := (List.replicate 128 (0 : Int))
  if (decide (x1 < (1 : Int))) = true then
  some (v2, (3 : Int), (((x0.1.1.1, ()), ()), ()))
  else
  Option.bind (m_arena_Arena_pages (((x0.1.1.1, ()), ()), ())) fun r4 =>
  if (decide (x1 > r4.1)) = true then
   some (v2, (3 : Int), (((r4.2.1.1.1, ()), ()), ()))
  else
   l0 x1 (0 : Int) (List.replicate 128 (0 : Int)) v2 r4.2.1.1.1
def m_arena_Arena_Read (x0 : ((((List Int) × Unit) × Unit) × Unit)) (x1 : Int) : Option ((List Int) × Int × ((((List Int) × Unit) × Unit) × Unit)) := m_arena_Arena_Read_a (m_arena_Arena_Read_l0 FUEL FUEL) x0 x1
def m_ticketlinelaw20_reads (x0 : ((((List Int) × Unit) × Unit) × Unit)) (x1 : Int) (x2 : (List Int)) (x3 : Int) : Option (Bool × ((((List Int) × Unit) × Unit) × Unit)) :=
  Option.bind (m_arena_Arena_Read (((x0.1.1.1, ()), ()), ()) x1) fun r1 =>
  if (Ty.beq (.arr 128 (.int .u64)) r1.1 x2) = true then
  some ((r1.2.1 == x3), (((r1.2.2.1.1.1, ()), ()), ()))
  else
  some (false, (((r1.2.2.1.1.1, ()), ()), ()))
def m_ticketlinelaw20_known : Option Bool :=
  some true
def m_ticketlinelaw20_ArenaWords (x0 : Int) (x1 : Int) : Option Bool :=
  if (decide (x0 < (1 : Int))) = true then
  Option.bind (m_ticketlinelaw20_word x0 x1 (0 : Int) (3 : Int)) fun r2 =>
  if r2 = true then
   Option.bind (m_ticketlinelaw20_known) fun r3 =>
   some r3
  else
   some false
  else
  if (decide (x0 > (511 : Int))) = true then
   Option.bind (m_ticketlinelaw20_word x0 x1 (0 : Int) (3 : Int)) fun r5 =>
   if r5 = true then
    Option.bind (m_ticketlinelaw20_known) fun r6 =>
    some r6
   else
    some false
  else
   if (decide (x1 < (0 : Int))) = true then
    Option.bind (m_ticketlinelaw20_word x0 x1 (0 : Int) (3 : Int)) fun r8 =>
    if r8 = true then
     Option.bind (m_ticketlinelaw20_known) fun r9 =>
     some r9
    else
     some false
   else
    if (decide (x1 > (127 : Int))) = true then
     Option.bind (m_ticketlinelaw20_word x0 x1 (0 : Int) (3 : Int)) fun r11 =>
     if r11 = true then
      Option.bind (m_ticketlinelaw20_known) fun r12 =>
      some r12
     else
      some false
    else
     Option.bind (m_ticketlinelaw20_word x0 x1 (IntKind.i64.wrap ((IntKind.i64.wrap ((16 : Int) + (IntKind.i64.wrap ((128 : Int) * (IntKind.i64.wrap (x0 - (1 : Int))))))) + x1)) (0 : Int)) fun r17 =>
     if r17 = true then
      Option.bind (m_ticketlinelaw20_known) fun r18 =>
      some r18
     else
      some false
def m_arena_Arena_Used_l0_b (s0 : (Int → (List Int) → (List Int) → Option ((List Int) × ((((List Int) × Unit) × Unit) × Unit)))) (u0_0 : Int) (u0_1 : (List Int)) (u0_2 : (List Int)) : Option ((List Int) × ((((List Int) × Unit) × Unit) × Unit)) :=
  Option.bind (m_arena_Arena_pages (((u0_2, ()), ()), ())) fun r1 =>
  if (decide (u0_0 ≤ r1.1)) = true then
  Option.bind (m_arena_Arena_used (((r1.2.1.1.1, ()), ()), ()) u0_0) fun r3 =>
  if r3.1 = true then
   let v4 := ([u0_0] : List Int)
   if fits (List.length u0_1 + List.length v4) 8 then
    s0 (IntKind.i64.wrap (u0_0 + (1 : Int))) (u0_1 ++ v4) r3.2.1.1.1
   else none
  else
   s0 (IntKind.i64.wrap (u0_0 + (1 : Int))) u0_1 r3.2.1.1.1
  else
  some (u0_1, (((r1.2.1.1.1, ()), ()), ()))
def m_arena_Arena_Used_l0 (N : Nat) : Nat → Int → (List Int) → (List Int) → Option ((List Int) × ((((List Int) × Unit) × Unit) × Unit))
  | 0, _, _, _ => none
  | n + 1, u0_0, u0_1, u0_2 => m_arena_Arena_Used_l0_b (m_arena_Arena_Used_l0 N n) u0_0 u0_1 u0_2
def m_arena_Arena_Used_a (l0 : (Int → (List Int) → (List Int) → Option ((List Int) × ((((List Int) × Unit) × Unit) × Unit)))) (x0 : ((((List Int) × Unit) × Unit) × Unit)) : Option ((List Int) × ((((List Int) × Unit) × Unit) × Unit)) :=
  l0 (1 : Int) ([] : List Int) x0.1.1.1
def m_arena_Arena_Used (x0 : ((((List Int) × Unit) × Unit) × Unit)) : Option ((List Int) × ((((List Int) × Unit) × Unit) × Unit)) := m_arena_Arena_Used_a (m_arena_Arena_Used_l0 FUEL FUEL) x0
def m_ticketlineref20_Arena_Pages (x0 : ((List Int) × Unit)) : Option (Int × ((List Int) × Unit)) :=
  if (0 : Int) < (x0.1.length : Int) then
  some ((IntKind.i64.wrap (rd (.int .u64) x0.1 (0 : Int))), (x0.1, ()))
  else none
def m_ticketlineref20_at (x0 : Int) (x1 : Int) : Option Int :=
  some (IntKind.i64.wrap ((IntKind.i64.wrap ((16 : Int) + (IntKind.i64.wrap ((128 : Int) * (IntKind.i64.wrap (x0 - (1 : Int))))))) + x1))
def m_ticketlineref20_Arena_Read_l0_b (s0 : (Int → Int → (List Int) → (List Int) → (List Int) → Option ((List Int) × Int × ((List Int) × Unit)))) (u0_0 : Int) (u0_1 : Int) (u0_2 : (List Int)) (u0_3 : (List Int)) (u0_4 : (List Int)) : Option ((List Int) × Int × ((List Int) × Unit)) :=
  if (decide (u0_1 < (128 : Int))) = true then
  Option.bind (m_ticketlineref20_at u0_0 u0_1) fun r7 =>
  if (0 : Int) ≤ r7 then
   if r7 < (u0_4.length : Int) then
    if (0 : Int) ≤ u0_1 then
     if u0_1 < (128 : Int) then
      s0 u0_0 (IntKind.i64.wrap (u0_1 + (1 : Int))) u0_2 (List.set u0_3 u0_1.toNat (rd (.int .u64) u0_4 r7)) u0_4
     else none
    else none
   else none
  else none
  else
  some (u0_3, (0 : Int), (u0_4, ()))
def m_ticketlineref20_Arena_Read_l0 (N : Nat) : Nat → Int → Int → (List Int) → (List Int) → (List Int) → Option ((List Int) × Int × ((List Int) × Unit))
  | 0, _, _, _, _, _ => none
  | n + 1, u0_0, u0_1, u0_2, u0_3, u0_4 => m_ticketlineref20_Arena_Read_l0_b (m_ticketlineref20_Arena_Read_l0 N n) u0_0 u0_1 u0_2 u0_3 u0_4
def m_ticketlineref20_Arena_Read_a (l0 : (Int → Int → (List Int) → (List Int) → (List Int) → Option ((List Int) × Int × ((List Int) × Unit)))) (x0 : ((List Int) × Unit)) (x1 : Int) : Option ((List Int) × Int × ((List Int) × Unit)) :=
  let v2 := (List.replicate 128 (0 : Int))
  if (decide (x1 < (1 : Int))) = true then
  some (v2, (3 : Int), (x0.1, ()))
  else
  Option.bind (m_ticketlineref20_Arena_Pages (x0.1, ())) fun r4 =>
  if (decide (x1 > r4.1)) = true then
   some (v2, (3 : Int), (r4.2.1, ()))
  else
   l0 x1 (0 : Int) (List.replicate 128 (0 : Int)) v2 r4.2.1
def m_ticketlineref20_Arena_Read (x0 : ((List Int) × Unit)) (x1 : Int) : Option ((List Int) × Int × ((List Int) × Unit)) := m_ticketlineref20_Arena_Read_a (m_ticketlineref20_Arena_Read_l0 FUEL FUEL) x0 x1
def m_ticketlineref20_Arena_Of_l0_b (s0 : (Int → Int → Int → Int → (List Int) → Option (Int × ((List Int) × Unit)))) (u0_0 : Int) (u0_1 : Int) (u0_2 : Int) (u0_3 : Int) (u0_4 : (List Int)) : Option (Int × ((List Int) × Unit)) :=
  Option.bind (m_ticketlineref20_Arena_Pages (u0_4, ())) fun r1 =>
  if (decide (u0_3 ≤ r1.1)) = true then
  Option.bind (m_ticketlineref20_at u0_3 (8 : Int)) fun r3 =>
  if (0 : Int) ≤ r3 then
   if r3 < (r1.2.1.length : Int) then
    let v4 := (rd (.int .u64) r1.2.1 r3)
    if (decide (v4 ≥ u0_0)) = true then
     if (decide (v4 ≤ u0_1)) = true then
      s0 u0_0 u0_1 (IntKind.i64.wrap (u0_2 + (1 : Int))) (IntKind.i64.wrap (u0_3 + (1 : Int))) r1.2.1
     else
      s0 u0_0 u0_1 u0_2 (IntKind.i64.wrap (u0_3 + (1 : Int))) r1.2.1
    else
     s0 u0_0 u0_1 u0_2 (IntKind.i64.wrap (u0_3 + (1 : Int))) r1.2.1
   else none
  else none
  else
  some (u0_2, (r1.2.1, ()))
def m_ticketlineref20_Arena_Of_l0 (N : Nat) : Nat → Int → Int → Int → Int → (List Int) → Option (Int × ((List Int) × Unit))
  | 0, _, _, _, _, _ => none
  | n + 1, u0_0, u0_1, u0_2, u0_3, u0_4 => m_ticketlineref20_Arena_Of_l0_b (m_ticketlineref20_Arena_Of_l0 N n) u0_0 u0_1 u0_2 u0_3 u0_4
def m_ticketlineref20_Arena_Of_a (l0 : (Int → Int → Int → Int → (List Int) → Option (Int × ((List Int) × Unit)))) (x0 : ((List Int) × Unit)) (x1 : Int) (x2 : Int) : Option (Int × ((List Int) × Unit)) :=
  l0 x1 x2 (0 : Int) (1 : Int) x0.1
def m_ticketlineref20_Arena_Of (x0 : ((List Int) × Unit)) (x1 : Int) (x2 : Int) : Option (Int × ((List Int) × Unit)) := m_ticketlineref20_Arena_Of_a (m_ticketlineref20_Arena_Of_l0 FUEL FUEL) x0 x1 x2
def m_ticketlinelaw20_alike_l1_b (s1 : (Int → Int → (List Int) → (List Int) → (List Int) → Option (Bool × ((((List Int) × Unit) × Unit) × Unit) × ((List Int) × Unit)))) (u1_0 : Int) (u1_1 : Int) (u1_2 : (List Int)) (u1_3 : (List Int)) (u1_4 : (List Int)) : Option (Bool × ((((List Int) × Unit) × Unit) × Unit) × ((List Int) × Unit)) :=
  Option.bind (m_ticketlineref20_Arena_Pages (u1_4, ())) fun r23 =>
  if (decide (u1_1 ≤ r23.1)) = true then
  Option.bind (m_ticketlineref20_Arena_Read (r23.2.1, ()) u1_1) fun r25 =>
  Option.bind (m_ticketlinelaw20_reads (((u1_3, ()), ()), ()) u1_1 r25.1 (0 : Int)) fun r27 =>
  if (!r27.1) = true then
   some (false, (((r27.2.1.1.1, ()), ()), ()), (r25.2.2.1, ()))
  else
   if (decide ((rd (.int .u64) r25.1 (8 : Int)) ≥ (1 : Int))) = true then
    if (decide ((rd (.int .u64) r25.1 (8 : Int)) ≤ (6 : Int))) = true then
     if (decide (u1_0 ≥ (u1_2.length : Int))) = true then
      some (false, (((r27.2.1.1.1, ()), ()), ()), (r25.2.2.1, ()))
     else
      if (0 : Int) ≤ u1_0 then
       if u1_0 < (u1_2.length : Int) then
        if ((rd (.int .i64) u1_2 u1_0) != u1_1) = true then
         some (false, (((r27.2.1.1.1, ()), ()), ()), (r25.2.2.1, ()))
        else
         s1 (IntKind.i64.wrap (u1_0 + (1 : Int))) (IntKind.i64.wrap (u1_1 + (1 : Int))) u1_2 r27.2.1.1.1 r25.2.2.1
       else none
      else none
    else
     s1 u1_0 (IntKind.i64.wrap (u1_1 + (1 : Int))) u1_2 r27.2.1.1.1 r25.2.2.1
   else
    s1 u1_0 (IntKind.i64.wrap (u1_1 + (1 : Int))) u1_2 r27.2.1.1.1 r25.2.2.1
  else
  some ((u1_0 == (u1_2.length : Int)), (((u1_3, ()), ()), ()), (r23.2.1, ()))
def m_ticketlinelaw20_alike_l1 (N : Nat) : Nat → Int → Int → (List Int) → (List Int) → (List Int) → Option (Bool × ((((List Int) × Unit) × Unit) × Unit) × ((List Int) × Unit))
  | 0, _, _, _, _, _ => none
  | n + 1, u1_0, u1_1, u1_2, u1_3, u1_4 => m_ticketlinelaw20_alike_l1_b (m_ticketlinelaw20_alike_l1 N n) u1_0 u1_1 u1_2 u1_3 u1_4
def m_ticketlinelaw20_alike_l0_b (s0 : (Int → (List Int) → (List Int) → (List Int) → Option (Bool × ((((List Int) × Unit) × Unit) × Unit) × ((List Int) × Unit)))) (l1 : (Int → Int → (List Int) → (List Int) → (List Int) → Option (Bool × ((((List Int) × Unit) × Unit) × Unit) × ((List Int) × Unit)))) (u0_0 : Int) (u0_1 : (List Int)) (u0_2 : (List Int)) (u0_3 : (List Int)) : Option (Bool × ((((List Int) × Unit) × Unit) × Unit) × ((List Int) × Unit)) :=
  if (decide (u0_0 < (u0_1.length : Int))) = true then
  Option.bind (m_mem_Mem_Load (u0_3, ()) u0_0) fun r17 =>
  if (0 : Int) ≤ u0_0 then
   if u0_0 < (u0_1.length : Int) then
    if (r17.1 != (rd (.int .u64) u0_1 u0_0)) = true then
     some (false, (((u0_2, ()), ()), ()), (u0_1, ()))
    else
     if (r17.2.1 != (0 : Int)) = true then
      some (false, (((u0_2, ()), ()), ()), (u0_1, ()))
     else
      s0 (IntKind.i64.wrap (u0_0 + (1 : Int))) u0_1 u0_2 r17.2.2.1
   else none
  else none
  else
  Option.bind (m_mem_Mem_Store (u0_3, ()) (1 : Int) (77 : Int)) fun r21 =>
  Option.bind (m_arena_Arena_Used (((u0_2, ()), ()), ())) fun r22 =>
  l1 (0 : Int) (1 : Int) r22.1 r22.2.1.1.1 u0_1
def m_ticketlinelaw20_alike_l0 (N : Nat) : Nat → Int → (List Int) → (List Int) → (List Int) → Option (Bool × ((((List Int) × Unit) × Unit) × Unit) × ((List Int) × Unit))
  | 0, _, _, _, _ => none
  | n + 1, u0_0, u0_1, u0_2, u0_3 => m_ticketlinelaw20_alike_l0_b (m_ticketlinelaw20_alike_l0 N n) (m_ticketlinelaw20_alike_l1 N N) u0_0 u0_1 u0_2 u0_3
def m_ticketlinelaw20_alike_a (l0 : (Int → (List Int) → (List Int) → (List Int) → Option (Bool × ((((List Int) × Unit) × Unit) × Unit) × ((List Int) × Unit)))) (x0 : ((((List Int) × Unit) × Unit) × Unit)) (x1 : ((List Int) × Unit)) : Option (Bool × ((((List Int) × Unit) × Unit) × Unit) × ((List Int) × Unit)) :=
  Option.bind (m_ticketlineref20_Arena_Pages (x1.1, ())) fun r1 =>
  Option.bind (m_ticketlineref20_Arena_Of (r1.2.1, ()) (0 : Int) (0 : Int)) fun r2 =>
  Option.bind (m_ticketlineref20_Arena_Of (r2.2.1, ()) (1 : Int) (6 : Int)) fun r3 =>
  Option.bind (m_ticketlineref20_Arena_Of (r3.2.1, ()) (255 : Int) (255 : Int)) fun r4 =>
  Option.bind (m_ticketlinelaw20_counts (((x0.1.1.1, ()), ()), ()) r1.1 r2.1 r3.1 r4.1) fun r5 =>
  if (!r5.1) = true then
  some (false, (((r5.2.1.1.1, ()), ()), ()), (r4.2.1, ()))
  else
  Option.bind (m_arena_Arena_Root (((r5.2.1.1.1, ()), ()), ())) fun r6 =>
  if (3 : Int) < (r4.2.1.length : Int) then
   if (r6.1 != (IntKind.i64.wrap (rd (.int .u64) r4.2.1 (3 : Int)))) = true then
    some (false, (((r6.2.1.1.1, ()), ()), ()), (r4.2.1, ()))
   else
    Option.bind (m_arena_Arena_Mem (((r6.2.1.1.1, ()), ()), ())) fun r9 =>
    (match r9.1 with
    | none =>
     some (false, (((r9.2.1.1.1, ()), ()), ()), (r4.2.1, ()))
    | some y10 =>
     if ((y10.1.length : Int) == (0 : Int)) = true then
      if ((0 : Int) != (r4.2.1.length : Int)) = true then
       some (false, (((r9.2.1.1.1, ()), ()), ()), (r4.2.1, ()))
      else
       l0 (0 : Int) r4.2.1 r9.2.1.1.1 y10.1
     else
      if ((y10.1.length : Int) != (r4.2.1.length : Int)) = true then
       some (false, (((r9.2.1.1.1, ()), ()), ()), (r4.2.1, ()))
      else
       l0 (0 : Int) r4.2.1 r9.2.1.1.1 y10.1)
  else none
def m_ticketlinelaw20_alike (x0 : ((((List Int) × Unit) × Unit) × Unit)) (x1 : ((List Int) × Unit)) : Option (Bool × ((((List Int) × Unit) × Unit) × Unit) × ((List Int) × Unit)) := m_ticketlinelaw20_alike_a (m_ticketlinelaw20_alike_l0 FUEL FUEL) x0 x1
def m_ticketlineref20_Format_l1_b (s1 : (Int → Int → (List Int) → Option (Option ((List Int) × Unit)))) (u1_0 : Int) (u1_1 : Int) (u1_2 : (List Int)) : Option (Option ((List Int) × Unit)) :=
  if (decide (u1_1 < u1_0)) = true then
  Option.bind (m_ticketlineref20_at u1_1 (10 : Int)) fun r11 =>
  if (0 : Int) ≤ r11 then
   if r11 < (u1_2.length : Int) then
    s1 u1_0 (IntKind.i64.wrap (u1_1 + (1 : Int))) (List.set u1_2 r11.toNat (IntKind.u64.wrap (IntKind.i64.wrap (u1_1 + (1 : Int)))))
   else none
  else none
  else
  some (some (u1_2, ()))
def m_ticketlineref20_Format_l1 (N : Nat) : Nat → Int → Int → (List Int) → Option (Option ((List Int) × Unit))
  | 0, _, _, _ => none
  | n + 1, u1_0, u1_1, u1_2 => m_ticketlineref20_Format_l1_b (m_ticketlineref20_Format_l1 N n) u1_0 u1_1 u1_2
def m_ticketlineref20_Format_l0_b (s0 : (Int → Int → (List Int) → Option (Option ((List Int) × Unit)))) (l1 : (Int → Int → (List Int) → Option (Option ((List Int) × Unit)))) (u0_0 : Int) (u0_1 : Int) (u0_2 : (List Int)) : Option (Option ((List Int) × Unit)) :=
  if (decide (u0_1 < (IntKind.i64.wrap ((16 : Int) + (IntKind.i64.wrap ((128 : Int) * u0_0)))))) = true then
  if (0 : Int) ≤ u0_1 then
   if u0_1 < (u0_2.length : Int) then
    s0 u0_0 (IntKind.i64.wrap (u0_1 + (1 : Int))) (List.set u0_2 u0_1.toNat (0 : Int))
   else none
  else none
  else
  if (0 : Int) < (u0_2.length : Int) then
   let v7 := (List.set u0_2 0 (IntKind.u64.wrap u0_0))
   if (1 : Int) < (v7.length : Int) then
    let v8 := (List.set v7 1 (1 : Int))
    if (4 : Int) < (v8.length : Int) then
     l1 u0_0 (1 : Int) (List.set v8 4 (1 : Int))
    else none
   else none
  else none
def m_ticketlineref20_Format_l0 (N : Nat) : Nat → Int → Int → (List Int) → Option (Option ((List Int) × Unit))
  | 0, _, _, _ => none
  | n + 1, u0_0, u0_1, u0_2 => m_ticketlineref20_Format_l0_b (m_ticketlineref20_Format_l0 N n) (m_ticketlineref20_Format_l1 N N) u0_0 u0_1 u0_2
def m_ticketlineref20_Format_a (l0 : (Int → Int → (List Int) → Option (Option ((List Int) × Unit)))) (x0 : (List Int)) (x1 : Int) : Option (Option ((List Int) × Unit)) :=
  if fits (List.length x0) 8 then
  l0 x1 (0 : Int) x0
  else none
def m_ticketlineref20_Format (x0 : (List Int)) (x1 : Int) : Option (Option ((List Int) × Unit)) := m_ticketlineref20_Format_a (m_ticketlineref20_Format_l0 FUEL FUEL) x0 x1
def m_ticketlinelaw20_ArenaFormats (x0 : Int) (x1 : Int) : Option Bool :=
  if (decide (x0 < (1 : Int))) = true then
  Option.bind (m_ticketlinelaw20_known) fun r2 =>
  some r2
  else
  if (decide (x0 > (3000 : Int))) = true then
   Option.bind (m_ticketlinelaw20_known) fun r4 =>
   some r4
  else
   Option.bind (m_ticketlinelaw20_memory x0) fun r5 =>
   Option.bind (m_arena_Format (r5.1, ()) x1) fun r6 =>
   (match r6.1 with
   | none =>
    if (decide (x1 < (1 : Int))) = true then
     Option.bind (m_ticketlinelaw20_fails none r6.2.1 (2 : Int)) fun r9 =>
     if r9.1 = true then
      Option.bind (m_ticketlinelaw20_known) fun r10 =>
      some r10
     else
      some false
    else
     if (decide (x1 > (511 : Int))) = true then
      Option.bind (m_ticketlinelaw20_fails none r6.2.1 (2 : Int)) fun r12 =>
      if r12.1 = true then
       Option.bind (m_ticketlinelaw20_known) fun r13 =>
       some r13
      else
       some false
     else
      if (decide (x0 < (IntKind.i64.wrap ((16 : Int) + (IntKind.i64.wrap ((128 : Int) * x1)))))) = true then
       Option.bind (m_ticketlinelaw20_fails none r6.2.1 (2 : Int)) fun r17 =>
       if r17.1 = true then
        Option.bind (m_ticketlinelaw20_known) fun r18 =>
        some r18
       else
        some false
      else
       if (r6.2.1 == (0 : Int)) = true then
        if (0 : Int) ≤ x0 then
         if x0 ≤ x0 then
          if fits x0.toNat 8 then
           Option.bind (m_ticketlineref20_Format (List.replicate x0.toNat (0 : Int)) x1) fun r21 =>
           (match r21 with
           | none =>
            none
           | some y22 =>
            none)
          else none
         else none
        else none
       else
        some false
   | some y7 =>
    if (decide (x1 < (1 : Int))) = true then
     Option.bind (m_ticketlinelaw20_fails (some (((y7.1.1.1, ()), ()), ())) r6.2.1 (2 : Int)) fun r24 =>
     (match r24.2 with
     | none =>
      none
     | some y25 =>
      if r24.1 = true then
       Option.bind (m_ticketlinelaw20_known) fun r26 =>
       some r26
      else
       some false)
    else
     if (decide (x1 > (511 : Int))) = true then
      Option.bind (m_ticketlinelaw20_fails (some (((y7.1.1.1, ()), ()), ())) r6.2.1 (2 : Int)) fun r28 =>
      (match r28.2 with
      | none =>
       none
      | some y29 =>
       if r28.1 = true then
        Option.bind (m_ticketlinelaw20_known) fun r30 =>
        some r30
       else
        some false)
     else
      if (decide (x0 < (IntKind.i64.wrap ((16 : Int) + (IntKind.i64.wrap ((128 : Int) * x1)))))) = true then
       Option.bind (m_ticketlinelaw20_fails (some (((y7.1.1.1, ()), ()), ())) r6.2.1 (2 : Int)) fun r34 =>
       (match r34.2 with
       | none =>
        none
       | some y35 =>
        if r34.1 = true then
         Option.bind (m_ticketlinelaw20_known) fun r36 =>
         some r36
        else
         some false)
      else
       if (r6.2.1 == (0 : Int)) = true then
        if (0 : Int) ≤ x0 then
         if x0 ≤ x0 then
          if fits x0.toNat 8 then
           Option.bind (m_ticketlineref20_Format (List.replicate x0.toNat (0 : Int)) x1) fun r39 =>
           (match r39 with
           | none =>
            none
           | some y40 =>
            Option.bind (m_ticketlinelaw20_alike (((y7.1.1.1, ()), ()), ()) (y40.1, ())) fun r41 =>
            if r41.1 = true then
             Option.bind (m_ticketlinelaw20_known) fun r42 =>
             some r42
            else
             some false)
          else none
         else none
        else none
       else
        some false)
def m_ticketlinelaw20_ArenaMany_l1_b (s1 : (Int → Int → Int → Int → (List Int) → Option Bool)) (u1_0 : Int) (u1_1 : Int) (u1_2 : Int) (u1_3 : Int) (u1_4 : (List Int)) : Option Bool :=
  if (decide (u1_3 ≤ u1_0)) = true then
  Option.bind (m_arena_Arena_Release (((u1_4, ()), ()), ()) u1_3) fun r26 =>
  if (r26.1 != (0 : Int)) = true then
   some false
  else
   s1 u1_0 u1_1 (IntKind.i64.wrap (u1_2 + (1 : Int))) (IntKind.i64.wrap (u1_3 + (IntKind.i64.wrap u1_1))) r26.2.1.1.1
  else
  Option.bind (m_ticketlinelaw20_counts (((u1_4, ()), ()), ()) u1_0 u1_2 (IntKind.i64.wrap (u1_0 - u1_2)) (0 : Int)) fun r32 =>
  if r32.1 = true then
   Option.bind (m_arena_Arena_Used (((r32.2.1.1.1, ()), ()), ())) fun r33 =>
   if ((r33.1.length : Int) == (IntKind.i64.wrap (u1_0 - u1_2))) = true then
    Option.bind (m_ticketlinelaw20_known) fun r36 =>
    some r36
   else
    some false
  else
   some false
def m_ticketlinelaw20_ArenaMany_l1 (N : Nat) : Nat → Int → Int → Int → Int → (List Int) → Option Bool
  | 0, _, _, _, _, _ => none
  | n + 1, u1_0, u1_1, u1_2, u1_3, u1_4 => m_ticketlinelaw20_ArenaMany_l1_b (m_ticketlinelaw20_ArenaMany_l1 N n) u1_0 u1_1 u1_2 u1_3 u1_4
def m_ticketlinelaw20_ArenaMany_l0_b (s0 : (Int → Int → Int → (List Int) → (List Int) → Option Bool)) (l1 : (Int → Int → Int → Int → (List Int) → Option Bool)) (u0_0 : Int) (u0_1 : Int) (u0_2 : Int) (u0_3 : (List Int)) (u0_4 : (List Int)) : Option Bool :=
  if (decide (u0_2 ≤ u0_0)) = true then
  Option.bind (m_ticketlinelaw20_allocs (((u0_4, ()), ()), ()) u0_3 u0_2 (0 : Int)) fun r21 =>
  if (!r21.1) = true then
   some false
  else
   s0 u0_0 u0_1 (IntKind.i64.wrap (u0_2 + (1 : Int))) u0_3 r21.2.1.1.1
  else
  Option.bind (m_ticketlinelaw20_allocs (((u0_4, ()), ()), ()) u0_3 (0 : Int) (7 : Int)) fun r23 =>
  if (!r23.1) = true then
   some false
  else
   l1 u0_0 u0_1 (0 : Int) (IntKind.i64.wrap u0_1) r23.2.1.1.1
def m_ticketlinelaw20_ArenaMany_l0 (N : Nat) : Nat → Int → Int → Int → (List Int) → (List Int) → Option Bool
  | 0, _, _, _, _, _ => none
  | n + 1, u0_0, u0_1, u0_2, u0_3, u0_4 => m_ticketlinelaw20_ArenaMany_l0_b (m_ticketlinelaw20_ArenaMany_l0 N n) (m_ticketlinelaw20_ArenaMany_l1 N N) u0_0 u0_1 u0_2 u0_3 u0_4
def m_ticketlinelaw20_ArenaMany_a (l0 : (Int → Int → Int → (List Int) → (List Int) → Option Bool)) (x0 : Int) (x1 : Int) : Option Bool :=
  if (decide (x0 < (509 : Int))) = true then
  Option.bind (m_ticketlinelaw20_known) fun r2 =>
  some r2
  else
  if (decide (x0 > (513 : Int))) = true then
   Option.bind (m_ticketlinelaw20_known) fun r4 =>
   some r4
  else
   if (decide (x1 < (2 : Int))) = true then
    Option.bind (m_ticketlinelaw20_known) fun r6 =>
    some r6
   else
    Option.bind (m_ticketlinelaw20_memory (65536 : Int)) fun r7 =>
    Option.bind (m_arena_Format (r7.1, ()) x0) fun r8 =>
    (match r8.1 with
    | none =>
     if (decide (x0 > (511 : Int))) = true then
      Option.bind (m_ticketlinelaw20_fails none r8.2.1 (2 : Int)) fun r11 =>
      if r11.1 = true then
       Option.bind (m_ticketlinelaw20_known) fun r12 =>
       some r12
      else
       some false
     else
      some false
    | some y9 =>
     if (decide (x0 > (511 : Int))) = true then
      Option.bind (m_ticketlinelaw20_fails (some (((y9.1.1.1, ()), ()), ())) r8.2.1 (2 : Int)) fun r14 =>
      (match r14.2 with
      | none =>
       none
      | some y15 =>
       if r14.1 = true then
        Option.bind (m_ticketlinelaw20_known) fun r16 =>
        some r16
       else
        some false)
     else
      if (r8.2.1 != (0 : Int)) = true then
       some false
      else
       Option.bind (m_ticketlineref14_Empty (2 : Int) (⟨#[]⟩ : ByteArray) (⟨#[]⟩ : ByteArray)) fun r18 =>
       l0 x0 x1 (1 : Int) r18 y9.1.1.1)
def m_ticketlinelaw20_ArenaMany (x0 : Int) (x1 : Int) : Option Bool := m_ticketlinelaw20_ArenaMany_a (m_ticketlinelaw20_ArenaMany_l0 FUEL FUEL) x0 x1
def m_ticketlinelaw20_ArenaHolds_l10_b (s0 : (Int → (List (Int × (Int × ((Int × (Int × (ByteArray × (ByteArray × ((List (ByteArray × (ByteArray × Unit))) × ((List Int) × ((List (Int × (Int × Unit))) × Unit))))))) × Unit)))) → Int → (List (List Int)) → (List Int) → (List Int) → Option Bool)) (s9 : (Int → (List (Int × (Int × ((Int × (Int × (ByteArray × (ByteArray × ((List (ByteArray × (ByteArray × Unit))) × ((List Int) × ((List (Int × (Int × Unit))) × Unit))))))) × Unit)))) → Int → Int → Int → Int → Int → (List (List Int)) → (List Int) → (List Int) → Option Bool)) (u10_0 : Int) (u10_1 : (List (Int × (Int × ((Int × (Int × (ByteArray × (ByteArray × ((List (ByteArray × (ByteArray × Unit))) × ((List Int) × ((List (Int × (Int × Unit))) × Unit))))))) × Unit))))) (u10_2 : Int) (u10_3 : Int) (u10_4 : Int) (u10_5 : Int) (u10_6 : Int) (u10_7 : (List (List Int))) (u10_8 : (List Int)) (u10_9 : (List Int)) : Option Bool :=
  s9 u10_0 u10_1 u10_2 u10_3 u10_4 u10_5 (IntKind.i64.wrap (u10_6 + (1 : Int))) u10_7 u10_8 u10_9
def m_ticketlinelaw20_ArenaHolds_l10 (N : Nat) (s0 : (Int → (List (Int × (Int × ((Int × (Int × (ByteArray × (ByteArray × ((List (ByteArray × (ByteArray × Unit))) × ((List Int) × ((List (Int × (Int × Unit))) × Unit))))))) × Unit)))) → Int → (List (List Int)) → (List Int) → (List Int) → Option Bool)) (s9 : (Int → (List (Int × (Int × ((Int × (Int × (ByteArray × (ByteArray × ((List (ByteArray × (ByteArray × Unit))) × ((List Int) × ((List (Int × (Int × Unit))) × Unit))))))) × Unit)))) → Int → Int → Int → Int → Int → (List (List Int)) → (List Int) → (List Int) → Option Bool)) (u10_0 : Int) (u10_1 : (List (Int × (Int × ((Int × (Int × (ByteArray × (ByteArray × ((List (ByteArray × (ByteArray × Unit))) × ((List Int) × ((List (Int × (Int × Unit))) × Unit))))))) × Unit))))) (u10_2 : Int) (u10_3 : Int) (u10_4 : Int) (u10_5 : Int) (u10_6 : Int) (u10_7 : (List (List Int))) (u10_8 : (List Int)) (u10_9 : (List Int)) : Option Bool := m_ticketlinelaw20_ArenaHolds_l10_b s0 s9 u10_0 u10_1 u10_2 u10_3 u10_4 u10_5 u10_6 u10_7 u10_8 u10_9
def m_ticketlinelaw20_ArenaHolds_l11_b (s0 : (Int → (List (Int × (Int × ((Int × (Int × (ByteArray × (ByteArray × ((List (ByteArray × (ByteArray × Unit))) × ((List Int) × ((List (Int × (Int × Unit))) × Unit))))))) × Unit)))) → Int → (List (List Int)) → (List Int) → (List Int) → Option Bool)) (s9 : (Int → (List (Int × (Int × ((Int × (Int × (ByteArray × (ByteArray × ((List (ByteArray × (ByteArray × Unit))) × ((List Int) × ((List (Int × (Int × Unit))) × Unit))))))) × Unit)))) → Int → Int → Int → Int → Int → (List (List Int)) → (List Int) → (List Int) → Option Bool)) (s11 : (Int → (List (Int × (Int × ((Int × (Int × (ByteArray × (ByteArray × ((List (ByteArray × (ByteArray × Unit))) × ((List Int) × ((List (Int × (Int × Unit))) × Unit))))))) × Unit)))) → Int → Int → Int → Int → Int → Int → (List (List Int)) → (List Int) → (List Int) → (List Int) → Option Bool)) (l10 : (Int → (List (Int × (Int × ((Int × (Int × (ByteArray × (ByteArray × ((List (ByteArray × (ByteArray × Unit))) × ((List Int) × ((List (Int × (Int × Unit))) × Unit))))))) × Unit)))) → Int → Int → Int → Int → Int → (List (List Int)) → (List Int) → (List Int) → Option Bool)) (u11_0 : Int) (u11_1 : (List (Int × (Int × ((Int × (Int × (ByteArray × (ByteArray × ((List (ByteArray × (ByteArray × Unit))) × ((List Int) × ((List (Int × (Int × Unit))) × Unit))))))) × Unit))))) (u11_2 : Int) (u11_3 : Int) (u11_4 : Int) (u11_5 : Int) (u11_6 : Int) (u11_7 : Int) (u11_8 : (List (List Int))) (u11_9 : (List Int)) (u11_10 : (List Int)) (u11_11 : (List Int)) : Option Bool :=
  if (decide (u11_7 < (128 : Int))) = true then
  if (0 : Int) ≤ u11_7 then
   if u11_7 < (128 : Int) then
    if (0 : Int) ≤ u11_6 then
     if u11_6 < (u11_8.length : Int) then
      if (0 : Int) ≤ u11_7 then
       if u11_7 < (128 : Int) then
        if ((rd (.int .u64) u11_10 u11_7) != (rd (.int .u64) (rd (.arr 128 (.int .u64)) u11_8 u11_6) u11_7)) = true then
         some false
        else
         s11 u11_0 u11_1 u11_2 u11_3 u11_4 u11_5 u11_6 (IntKind.i64.wrap (u11_7 + (1 : Int))) u11_8 u11_9 u11_10 u11_11
       else none
      else none
     else none
    else none
   else none
  else none
  else
  l10 u11_0 u11_1 u11_2 u11_3 u11_4 u11_5 u11_6 u11_8 u11_9 u11_11
def m_ticketlinelaw20_ArenaHolds_l11 (N : Nat) (s0 : (Int → (List (Int × (Int × ((Int × (Int × (ByteArray × (ByteArray × ((List (ByteArray × (ByteArray × Unit))) × ((List Int) × ((List (Int × (Int × Unit))) × Unit))))))) × Unit)))) → Int → (List (List Int)) → (List Int) → (List Int) → Option Bool)) (s9 : (Int → (List (Int × (Int × ((Int × (Int × (ByteArray × (ByteArray × ((List (ByteArray × (ByteArray × Unit))) × ((List Int) × ((List (Int × (Int × Unit))) × Unit))))))) × Unit)))) → Int → Int → Int → Int → Int → (List (List Int)) → (List Int) → (List Int) → Option Bool)) : Nat → Int → (List (Int × (Int × ((Int × (Int × (ByteArray × (ByteArray × ((List (ByteArray × (ByteArray × Unit))) × ((List Int) × ((List (Int × (Int × Unit))) × Unit))))))) × Unit)))) → Int → Int → Int → Int → Int → Int → (List (List Int)) → (List Int) → (List Int) → (List Int) → Option Bool
  | 0, _, _, _, _, _, _, _, _, _, _, _, _ => none
  | n + 1, u11_0, u11_1, u11_2, u11_3, u11_4, u11_5, u11_6, u11_7, u11_8, u11_9, u11_10, u11_11 => m_ticketlinelaw20_ArenaHolds_l11_b s0 s9 (m_ticketlinelaw20_ArenaHolds_l11 N s0 s9 n) (m_ticketlinelaw20_ArenaHolds_l10 N s0 s9) u11_0 u11_1 u11_2 u11_3 u11_4 u11_5 u11_6 u11_7 u11_8 u11_9 u11_10 u11_11
def m_ticketlinelaw20_ArenaHolds_l9_b (s0 : (Int → (List (Int × (Int × ((Int × (Int × (ByteArray × (ByteArray × ((List (ByteArray × (ByteArray × Unit))) × ((List Int) × ((List (Int × (Int × Unit))) × Unit))))))) × Unit)))) → Int → (List (List Int)) → (List Int) → (List Int) → Option Bool)) (s9 : (Int → (List (Int × (Int × ((Int × (Int × (ByteArray × (ByteArray × ((List (ByteArray × (ByteArray × Unit))) × ((List Int) × ((List (Int × (Int × Unit))) × Unit))))))) × Unit)))) → Int → Int → Int → Int → Int → (List (List Int)) → (List Int) → (List Int) → Option Bool)) (l10 : (Int → (List (Int × (Int × ((Int × (Int × (ByteArray × (ByteArray × ((List (ByteArray × (ByteArray × Unit))) × ((List Int) × ((List (Int × (Int × Unit))) × Unit))))))) × Unit)))) → Int → Int → Int → Int → Int → (List (List Int)) → (List Int) → (List Int) → Option Bool)) (l11 : (Int → (List (Int × (Int × ((Int × (Int × (ByteArray × (ByteArray × ((List (ByteArray × (ByteArray × Unit))) × ((List Int) × ((List (Int × (Int × Unit))) × Unit))))))) × Unit)))) → Int → Int → Int → Int → Int → Int → (List (List Int)) → (List Int) → (List Int) → (List Int) → Option Bool)) (u9_0 : Int) (u9_1 : (List (Int × (Int × ((Int × (Int × (ByteArray × (ByteArray × ((List (ByteArray × (ByteArray × Unit))) × ((List Int) × ((List (Int × (Int × Unit))) × Unit))))))) × Unit))))) (u9_2 : Int) (u9_3 : Int) (u9_4 : Int) (u9_5 : Int) (u9_6 : Int) (u9_7 : (List (List Int))) (u9_8 : (List Int)) (u9_9 : (List Int)) : Option Bool :=
  if (decide (u9_6 ≤ u9_0)) = true then
  Option.bind (m_arena_Arena_Read (((u9_9, ()), ()), ()) u9_6) fun r38 =>
  if (r38.2.1 != (0 : Int)) = true then
   some false
  else
   if (0 : Int) ≤ u9_6 then
    if u9_6 < (u9_8.length : Int) then
     if (decide ((rd (.int .i64) u9_8 u9_6) > (0 : Int))) = true then
      l10 u9_0 u9_1 u9_2 u9_3 u9_4 (IntKind.i64.wrap (u9_5 + (1 : Int))) u9_6 u9_7 u9_8 r38.2.2.1.1.1
     else
      if (0 : Int) ≤ u9_6 then
       if u9_6 < (u9_7.length : Int) then
        if ((rd (.int .u64) (rd (.arr 128 (.int .u64)) u9_7 u9_6) (8 : Int)) == (0 : Int)) = true then
         l10 u9_0 u9_1 u9_2 (IntKind.i64.wrap (u9_3 + (1 : Int))) u9_4 u9_5 u9_6 u9_7 u9_8 r38.2.2.1.1.1
        else
         l11 u9_0 u9_1 u9_2 u9_3 (IntKind.i64.wrap (u9_4 + (1 : Int))) u9_5 u9_6 (8 : Int) u9_7 u9_8 r38.1 r38.2.2.1.1.1
       else none
      else none
    else none
   else none
  else
  Option.bind (m_arena_Arena_Mem (((u9_9, ()), ()), ())) fun r53 =>
  (match r53.1 with
  | none =>
   none
  | some y54 =>
   Option.bind (m_arena_Open (y54.1, ())) fun r55 =>
   (match r55.1 with
   | none =>
    some false
   | some y56 =>
    if (r55.2.1 != (0 : Int)) = true then
     some false
    else
     Option.bind (m_ticketlinelaw20_counts (((r53.2.1.1.1, ()), ()), ()) u9_0 u9_3 u9_4 u9_5) fun r58 =>
     if (!r58.1) = true then
      some false
     else
      Option.bind (m_ticketlinelaw20_counts (((y56.1.1.1, ()), ()), ()) u9_0 u9_3 u9_4 u9_5) fun r59 =>
      if (!r59.1) = true then
       some false
      else
       s0 u9_0 u9_1 (IntKind.i64.wrap (u9_2 + (1 : Int))) u9_7 u9_8 r58.2.1.1.1))
def m_ticketlinelaw20_ArenaHolds_l9 (N : Nat) (s0 : (Int → (List (Int × (Int × ((Int × (Int × (ByteArray × (ByteArray × ((List (ByteArray × (ByteArray × Unit))) × ((List Int) × ((List (Int × (Int × Unit))) × Unit))))))) × Unit)))) → Int → (List (List Int)) → (List Int) → (List Int) → Option Bool)) : Nat → Int → (List (Int × (Int × ((Int × (Int × (ByteArray × (ByteArray × ((List (ByteArray × (ByteArray × Unit))) × ((List Int) × ((List (Int × (Int × Unit))) × Unit))))))) × Unit)))) → Int → Int → Int → Int → Int → (List (List Int)) → (List Int) → (List Int) → Option Bool
  | 0, _, _, _, _, _, _, _, _, _, _ => none
  | n + 1, u9_0, u9_1, u9_2, u9_3, u9_4, u9_5, u9_6, u9_7, u9_8, u9_9 => m_ticketlinelaw20_ArenaHolds_l9_b s0 (m_ticketlinelaw20_ArenaHolds_l9 N s0 n) (m_ticketlinelaw20_ArenaHolds_l10 N s0 (m_ticketlinelaw20_ArenaHolds_l9 N s0 n)) (m_ticketlinelaw20_ArenaHolds_l11 N s0 (m_ticketlinelaw20_ArenaHolds_l9 N s0 n) N) u9_0 u9_1 u9_2 u9_3 u9_4 u9_5 u9_6 u9_7 u9_8 u9_9
def m_ticketlinelaw20_ArenaHolds_l8_b (s0 : (Int → (List (Int × (Int × ((Int × (Int × (ByteArray × (ByteArray × ((List (ByteArray × (ByteArray × Unit))) × ((List Int) × ((List (Int × (Int × Unit))) × Unit))))))) × Unit)))) → Int → (List (List Int)) → (List Int) → (List Int) → Option Bool)) (l9 : (Int → (List (Int × (Int × ((Int × (Int × (ByteArray × (ByteArray × ((List (ByteArray × (ByteArray × Unit))) × ((List Int) × ((List (Int × (Int × Unit))) × Unit))))))) × Unit)))) → Int → Int → Int → Int → Int → (List (List Int)) → (List Int) → (List Int) → Option Bool)) (u8_0 : Int) (u8_1 : (List (Int × (Int × ((Int × (Int × (ByteArray × (ByteArray × ((List (ByteArray × (ByteArray × Unit))) × ((List Int) × ((List (Int × (Int × Unit))) × Unit))))))) × Unit))))) (u8_2 : Int) (u8_3 : Int) (u8_4 : Int) (u8_5 : Int) (u8_6 : Int) (u8_7 : (List (List Int))) (u8_8 : (List Int)) (u8_9 : (List Int)) : Option Bool :=
  l9 u8_0 u8_1 u8_2 u8_3 u8_4 u8_5 u8_6 u8_7 u8_8 u8_9
def m_ticketlinelaw20_ArenaHolds_l8 (N : Nat) (s0 : (Int → (List (Int × (Int × ((Int × (Int × (ByteArray × (ByteArray × ((List (ByteArray × (ByteArray × Unit))) × ((List Int) × ((List (Int × (Int × Unit))) × Unit))))))) × Unit)))) → Int → (List (List Int)) → (List Int) → (List Int) → Option Bool)) (u8_0 : Int) (u8_1 : (List (Int × (Int × ((Int × (Int × (ByteArray × (ByteArray × ((List (ByteArray × (ByteArray × Unit))) × ((List Int) × ((List (Int × (Int × Unit))) × Unit))))))) × Unit))))) (u8_2 : Int) (u8_3 : Int) (u8_4 : Int) (u8_5 : Int) (u8_6 : Int) (u8_7 : (List (List Int))) (u8_8 : (List Int)) (u8_9 : (List Int)) : Option Bool := m_ticketlinelaw20_ArenaHolds_l8_b s0 (m_ticketlinelaw20_ArenaHolds_l9 N s0 N) u8_0 u8_1 u8_2 u8_3 u8_4 u8_5 u8_6 u8_7 u8_8 u8_9
def m_ticketlinelaw20_ArenaHolds_l7_b (s0 : (Int → (List (Int × (Int × ((Int × (Int × (ByteArray × (ByteArray × ((List (ByteArray × (ByteArray × Unit))) × ((List Int) × ((List (Int × (Int × Unit))) × Unit))))))) × Unit)))) → Int → (List (List Int)) → (List Int) → (List Int) → Option Bool)) (l8 : (Int → (List (Int × (Int × ((Int × (Int × (ByteArray × (ByteArray × ((List (ByteArray × (ByteArray × Unit))) × ((List Int) × ((List (Int × (Int × Unit))) × Unit))))))) × Unit)))) → Int → Int → Int → Int → Int → (List (List Int)) → (List Int) → (List Int) → Option Bool)) (u7_0 : Int) (u7_1 : (List (Int × (Int × ((Int × (Int × (ByteArray × (ByteArray × ((List (ByteArray × (ByteArray × Unit))) × ((List Int) × ((List (Int × (Int × Unit))) × Unit))))))) × Unit))))) (u7_2 : Int) (u7_3 : Int) (u7_4 : Int) (u7_5 : Int) (u7_6 : (List (List Int))) (u7_7 : (List Int)) (u7_8 : (List Int)) : Option Bool :=
  l8 u7_0 u7_1 u7_2 u7_3 u7_4 u7_5 (1 : Int) u7_6 u7_7 u7_8
def m_ticketlinelaw20_ArenaHolds_l7 (N : Nat) (s0 : (Int → (List (Int × (Int × ((Int × (Int × (ByteArray × (ByteArray × ((List (ByteArray × (ByteArray × Unit))) × ((List Int) × ((List (Int × (Int × Unit))) × Unit))))))) × Unit)))) → Int → (List (List Int)) → (List Int) → (List Int) → Option Bool)) (u7_0 : Int) (u7_1 : (List (Int × (Int × ((Int × (Int × (ByteArray × (ByteArray × ((List (ByteArray × (ByteArray × Unit))) × ((List Int) × ((List (Int × (Int × Unit))) × Unit))))))) × Unit))))) (u7_2 : Int) (u7_3 : Int) (u7_4 : Int) (u7_5 : Int) (u7_6 : (List (List Int))) (u7_7 : (List Int)) (u7_8 : (List Int)) : Option Bool := m_ticketlinelaw20_ArenaHolds_l7_b s0 (m_ticketlinelaw20_ArenaHolds_l8 N s0) u7_0 u7_1 u7_2 u7_3 u7_4 u7_5 u7_6 u7_7 u7_8
def m_ticketlinelaw20_ArenaHolds_l6_b (s0 : (Int → (List (Int × (Int × ((Int × (Int × (ByteArray × (ByteArray × ((List (ByteArray × (ByteArray × Unit))) × ((List Int) × ((List (Int × (Int × Unit))) × Unit))))))) × Unit)))) → Int → (List (List Int)) → (List Int) → (List Int) → Option Bool)) (l7 : (Int → (List (Int × (Int × ((Int × (Int × (ByteArray × (ByteArray × ((List (ByteArray × (ByteArray × Unit))) × ((List Int) × ((List (Int × (Int × Unit))) × Unit))))))) × Unit)))) → Int → Int → Int → Int → (List (List Int)) → (List Int) → (List Int) → Option Bool)) (u6_0 : Int) (u6_1 : (List (Int × (Int × ((Int × (Int × (ByteArray × (ByteArray × ((List (ByteArray × (ByteArray × Unit))) × ((List Int) × ((List (Int × (Int × Unit))) × Unit))))))) × Unit))))) (u6_2 : Int) (u6_3 : (List (List Int))) (u6_4 : (List Int)) (u6_5 : (List Int)) : Option Bool :=
  l7 u6_0 u6_1 u6_2 (0 : Int) (0 : Int) (0 : Int) u6_3 u6_4 u6_5
def m_ticketlinelaw20_ArenaHolds_l6 (N : Nat) (s0 : (Int → (List (Int × (Int × ((Int × (Int × (ByteArray × (ByteArray × ((List (ByteArray × (ByteArray × Unit))) × ((List Int) × ((List (Int × (Int × Unit))) × Unit))))))) × Unit)))) → Int → (List (List Int)) → (List Int) → (List Int) → Option Bool)) (u6_0 : Int) (u6_1 : (List (Int × (Int × ((Int × (Int × (ByteArray × (ByteArray × ((List (ByteArray × (ByteArray × Unit))) × ((List Int) × ((List (Int × (Int × Unit))) × Unit))))))) × Unit))))) (u6_2 : Int) (u6_3 : (List (List Int))) (u6_4 : (List Int)) (u6_5 : (List Int)) : Option Bool := m_ticketlinelaw20_ArenaHolds_l6_b s0 (m_ticketlinelaw20_ArenaHolds_l7 N s0) u6_0 u6_1 u6_2 u6_3 u6_4 u6_5
def m_ticketlinelaw20_ArenaHolds_l5_b (s0 : (Int → (List (Int × (Int × ((Int × (Int × (ByteArray × (ByteArray × ((List (ByteArray × (ByteArray × Unit))) × ((List Int) × ((List (Int × (Int × Unit))) × Unit))))))) × Unit)))) → Int → (List (List Int)) → (List Int) → (List Int) → Option Bool)) (l6 : (Int → (List (Int × (Int × ((Int × (Int × (ByteArray × (ByteArray × ((List (ByteArray × (ByteArray × Unit))) × ((List Int) × ((List (Int × (Int × Unit))) × Unit))))))) × Unit)))) → Int → (List (List Int)) → (List Int) → (List Int) → Option Bool)) (u5_0 : Int) (u5_1 : (List (Int × (Int × ((Int × (Int × (ByteArray × (ByteArray × ((List (ByteArray × (ByteArray × Unit))) × ((List Int) × ((List (Int × (Int × Unit))) × Unit))))))) × Unit))))) (u5_2 : Int) (u5_3 : Int) (u5_4 : Int) (u5_5 : (List (List Int))) (u5_6 : (List Int)) (u5_7 : (List Int)) (u5_8 : (List Int)) : Option Bool :=
  if (u5_4 == (0 : Int)) = true then
  if (0 : Int) ≤ u5_3 then
   if u5_3 < (u5_5.length : Int) then
    l6 u5_0 u5_1 u5_2 (List.set u5_5 u5_3.toNat u5_7) u5_6 u5_8
   else none
  else none
  else
  l6 u5_0 u5_1 u5_2 u5_5 u5_6 u5_8
def m_ticketlinelaw20_ArenaHolds_l5 (N : Nat) (s0 : (Int → (List (Int × (Int × ((Int × (Int × (ByteArray × (ByteArray × ((List (ByteArray × (ByteArray × Unit))) × ((List Int) × ((List (Int × (Int × Unit))) × Unit))))))) × Unit)))) → Int → (List (List Int)) → (List Int) → (List Int) → Option Bool)) (u5_0 : Int) (u5_1 : (List (Int × (Int × ((Int × (Int × (ByteArray × (ByteArray × ((List (ByteArray × (ByteArray × Unit))) × ((List Int) × ((List (Int × (Int × Unit))) × Unit))))))) × Unit))))) (u5_2 : Int) (u5_3 : Int) (u5_4 : Int) (u5_5 : (List (List Int))) (u5_6 : (List Int)) (u5_7 : (List Int)) (u5_8 : (List Int)) : Option Bool := m_ticketlinelaw20_ArenaHolds_l5_b s0 (m_ticketlinelaw20_ArenaHolds_l6 N s0) u5_0 u5_1 u5_2 u5_3 u5_4 u5_5 u5_6 u5_7 u5_8
def m_ticketlinelaw20_ArenaHolds_l4_b (s0 : (Int → (List (Int × (Int × ((Int × (Int × (ByteArray × (ByteArray × ((List (ByteArray × (ByteArray × Unit))) × ((List Int) × ((List (Int × (Int × Unit))) × Unit))))))) × Unit)))) → Int → (List (List Int)) → (List Int) → (List Int) → Option Bool)) (l5 : (Int → (List (Int × (Int × ((Int × (Int × (ByteArray × (ByteArray × ((List (ByteArray × (ByteArray × Unit))) × ((List Int) × ((List (Int × (Int × Unit))) × Unit))))))) × Unit)))) → Int → Int → Int → (List (List Int)) → (List Int) → (List Int) → (List Int) → Option Bool)) (u4_0 : Int) (u4_1 : (List (Int × (Int × ((Int × (Int × (ByteArray × (ByteArray × ((List (ByteArray × (ByteArray × Unit))) × ((List Int) × ((List (Int × (Int × Unit))) × Unit))))))) × Unit))))) (u4_2 : Int) (u4_3 : Int) (u4_4 : Int) (u4_5 : (List (List Int))) (u4_6 : (List Int)) (u4_7 : (List Int)) (u4_8 : (List Int)) : Option Bool :=
  if (u4_4 == (0 : Int)) = true then
  if (decide (u4_3 < (1 : Int))) = true then
   some false
  else
   if (decide (u4_3 > u4_0)) = true then
    some false
   else
    if (0 : Int) ≤ u4_3 then
     if u4_3 < (u4_5.length : Int) then
      if ((rd (.int .u64) (rd (.arr 128 (.int .u64)) u4_5 u4_3) (8 : Int)) != (0 : Int)) = true then
       some false
      else
       if (0 : Int) ≤ u4_3 then
        if u4_3 < (u4_6.length : Int) then
         if ((rd (.int .i64) u4_6 u4_3) != (0 : Int)) = true then
          some false
         else
          l5 u4_0 u4_1 u4_2 u4_3 u4_4 u4_5 u4_6 u4_7 u4_8
        else none
       else none
     else none
    else none
  else
  l5 u4_0 u4_1 u4_2 u4_3 u4_4 u4_5 u4_6 u4_7 u4_8
def m_ticketlinelaw20_ArenaHolds_l4 (N : Nat) (s0 : (Int → (List (Int × (Int × ((Int × (Int × (ByteArray × (ByteArray × ((List (ByteArray × (ByteArray × Unit))) × ((List Int) × ((List (Int × (Int × Unit))) × Unit))))))) × Unit)))) → Int → (List (List Int)) → (List Int) → (List Int) → Option Bool)) (u4_0 : Int) (u4_1 : (List (Int × (Int × ((Int × (Int × (ByteArray × (ByteArray × ((List (ByteArray × (ByteArray × Unit))) × ((List Int) × ((List (Int × (Int × Unit))) × Unit))))))) × Unit))))) (u4_2 : Int) (u4_3 : Int) (u4_4 : Int) (u4_5 : (List (List Int))) (u4_6 : (List Int)) (u4_7 : (List Int)) (u4_8 : (List Int)) : Option Bool := m_ticketlinelaw20_ArenaHolds_l4_b s0 (m_ticketlinelaw20_ArenaHolds_l5 N s0) u4_0 u4_1 u4_2 u4_3 u4_4 u4_5 u4_6 u4_7 u4_8
def m_ticketlinelaw20_ArenaHolds_l12_b (s0 : (Int → (List (Int × (Int × ((Int × (Int × (ByteArray × (ByteArray × ((List (ByteArray × (ByteArray × Unit))) × ((List Int) × ((List (Int × (Int × Unit))) × Unit))))))) × Unit)))) → Int → (List (List Int)) → (List Int) → (List Int) → Option Bool)) (l6 : (Int → (List (Int × (Int × ((Int × (Int × (ByteArray × (ByteArray × ((List (ByteArray × (ByteArray × Unit))) × ((List Int) × ((List (Int × (Int × Unit))) × Unit))))))) × Unit)))) → Int → (List (List Int)) → (List Int) → (List Int) → Option Bool)) (u12_0 : Int) (u12_1 : (List (Int × (Int × ((Int × (Int × (ByteArray × (ByteArray × ((List (ByteArray × (ByteArray × Unit))) × ((List Int) × ((List (Int × (Int × Unit))) × Unit))))))) × Unit))))) (u12_2 : Int) (u12_3 : (List (List Int))) (u12_4 : (List Int)) (u12_5 : Int) (u12_6 : Int) (u12_7 : Int) (u12_8 : Int) (u12_9 : ByteArray) (u12_10 : ByteArray) (u12_11 : (List (ByteArray × (ByteArray × Unit)))) (u12_12 : (List Int)) (u12_13 : (List (Int × (Int × Unit)))) (u12_14 : (List Int)) : Option Bool :=
  if (0 : Int) ≤ u12_6 then
  if u12_6 < (u12_3.length : Int) then
   l6 u12_0 u12_1 u12_2 (List.set u12_3 u12_6.toNat (List.replicate 128 (0 : Int))) u12_4 u12_14
  else none
  else none
def m_ticketlinelaw20_ArenaHolds_l12 (N : Nat) (s0 : (Int → (List (Int × (Int × ((Int × (Int × (ByteArray × (ByteArray × ((List (ByteArray × (ByteArray × Unit))) × ((List Int) × ((List (Int × (Int × Unit))) × Unit))))))) × Unit)))) → Int → (List (List Int)) → (List Int) → (List Int) → Option Bool)) (u12_0 : Int) (u12_1 : (List (Int × (Int × ((Int × (Int × (ByteArray × (ByteArray × ((List (ByteArray × (ByteArray × Unit))) × ((List Int) × ((List (Int × (Int × Unit))) × Unit))))))) × Unit))))) (u12_2 : Int) (u12_3 : (List (List Int))) (u12_4 : (List Int)) (u12_5 : Int) (u12_6 : Int) (u12_7 : Int) (u12_8 : Int) (u12_9 : ByteArray) (u12_10 : ByteArray) (u12_11 : (List (ByteArray × (ByteArray × Unit)))) (u12_12 : (List Int)) (u12_13 : (List (Int × (Int × Unit)))) (u12_14 : (List Int)) : Option Bool := m_ticketlinelaw20_ArenaHolds_l12_b s0 (m_ticketlinelaw20_ArenaHolds_l6 N s0) u12_0 u12_1 u12_2 u12_3 u12_4 u12_5 u12_6 u12_7 u12_8 u12_9 u12_10 u12_11 u12_12 u12_13 u12_14
def m_ticketlinelaw20_ArenaHolds_l14_b (s0 : (Int → (List (Int × (Int × ((Int × (Int × (ByteArray × (ByteArray × ((List (ByteArray × (ByteArray × Unit))) × ((List Int) × ((List (Int × (Int × Unit))) × Unit))))))) × Unit)))) → Int → (List (List Int)) → (List Int) → (List Int) → Option Bool)) (l6 : (Int → (List (Int × (Int × ((Int × (Int × (ByteArray × (ByteArray × ((List (ByteArray × (ByteArray × Unit))) × ((List Int) × ((List (Int × (Int × Unit))) × Unit))))))) × Unit)))) → Int → (List (List Int)) → (List Int) → (List Int) → Option Bool)) (u14_0 : Int) (u14_1 : (List (Int × (Int × ((Int × (Int × (ByteArray × (ByteArray × ((List (ByteArray × (ByteArray × Unit))) × ((List Int) × ((List (Int × (Int × Unit))) × Unit))))))) × Unit))))) (u14_2 : Int) (u14_3 : Int) (u14_4 : (List (List Int))) (u14_5 : (List Int)) (u14_6 : Int) (u14_7 : Int) (u14_8 : Int) (u14_9 : Int) (u14_10 : ByteArray) (u14_11 : ByteArray) (u14_12 : (List (ByteArray × (ByteArray × Unit)))) (u14_13 : (List Int)) (u14_14 : (List (Int × (Int × Unit)))) (u14_15 : (List Int)) : Option Bool :=
  if (0 : Int) ≤ u14_7 then
  if u14_7 < (u14_4.length : Int) then
   if (0 : Int) ≤ u14_7 then
    if u14_7 < (u14_5.length : Int) then
     l6 u14_0 u14_1 u14_2 (List.set u14_4 u14_7.toNat (List.replicate 128 (0 : Int))) (List.set u14_5 u14_7.toNat u14_3) u14_15
    else none
   else none
  else none
  else none
def m_ticketlinelaw20_ArenaHolds_l14 (N : Nat) (s0 : (Int → (List (Int × (Int × ((Int × (Int × (ByteArray × (ByteArray × ((List (ByteArray × (ByteArray × Unit))) × ((List Int) × ((List (Int × (Int × Unit))) × Unit))))))) × Unit)))) → Int → (List (List Int)) → (List Int) → (List Int) → Option Bool)) (u14_0 : Int) (u14_1 : (List (Int × (Int × ((Int × (Int × (ByteArray × (ByteArray × ((List (ByteArray × (ByteArray × Unit))) × ((List Int) × ((List (Int × (Int × Unit))) × Unit))))))) × Unit))))) (u14_2 : Int) (u14_3 : Int) (u14_4 : (List (List Int))) (u14_5 : (List Int)) (u14_6 : Int) (u14_7 : Int) (u14_8 : Int) (u14_9 : Int) (u14_10 : ByteArray) (u14_11 : ByteArray) (u14_12 : (List (ByteArray × (ByteArray × Unit)))) (u14_13 : (List Int)) (u14_14 : (List (Int × (Int × Unit)))) (u14_15 : (List Int)) : Option Bool := m_ticketlinelaw20_ArenaHolds_l14_b s0 (m_ticketlinelaw20_ArenaHolds_l6 N s0) u14_0 u14_1 u14_2 u14_3 u14_4 u14_5 u14_6 u14_7 u14_8 u14_9 u14_10 u14_11 u14_12 u14_13 u14_14 u14_15
def m_ticketlinelaw20_ArenaHolds_l13_b (s0 : (Int → (List (Int × (Int × ((Int × (Int × (ByteArray × (ByteArray × ((List (ByteArray × (ByteArray × Unit))) × ((List Int) × ((List (Int × (Int × Unit))) × Unit))))))) × Unit)))) → Int → (List (List Int)) → (List Int) → (List Int) → Option Bool)) (l6 : (Int → (List (Int × (Int × ((Int × (Int × (ByteArray × (ByteArray × ((List (ByteArray × (ByteArray × Unit))) × ((List Int) × ((List (Int × (Int × Unit))) × Unit))))))) × Unit)))) → Int → (List (List Int)) → (List Int) → (List Int) → Option Bool)) (l14 : (Int → (List (Int × (Int × ((Int × (Int × (ByteArray × (ByteArray × ((List (ByteArray × (ByteArray × Unit))) × ((List Int) × ((List (Int × (Int × Unit))) × Unit))))))) × Unit)))) → Int → Int → (List (List Int)) → (List Int) → Int → Int → Int → Int → ByteArray → ByteArray → (List (ByteArray × (ByteArray × Unit))) → (List Int) → (List (Int × (Int × Unit))) → (List Int) → Option Bool)) (u13_0 : Int) (u13_1 : (List (Int × (Int × ((Int × (Int × (ByteArray × (ByteArray × ((List (ByteArray × (ByteArray × Unit))) × ((List Int) × ((List (Int × (Int × Unit))) × Unit))))))) × Unit))))) (u13_2 : Int) (u13_3 : Bool) (u13_4 : Int) (u13_5 : Int) (u13_6 : (List (List Int))) (u13_7 : (List Int)) (u13_8 : Int) (u13_9 : Int) (u13_10 : Int) (u13_11 : Int) (u13_12 : ByteArray) (u13_13 : ByteArray) (u13_14 : (List (ByteArray × (ByteArray × Unit)))) (u13_15 : (List Int)) (u13_16 : (List (Int × (Int × Unit)))) (u13_17 : (List Int)) : Option Bool :=
  if (u13_5 == (0 : Int)) = true then
  if (!u13_3) = true then
   some false
  else
   if (decide (u13_4 < (1 : Int))) = true then
    some false
   else
    l14 u13_0 u13_1 u13_2 u13_4 u13_6 u13_7 u13_8 u13_9 u13_10 u13_11 u13_12 u13_13 u13_14 u13_15 u13_16 u13_17
  else
  l6 u13_0 u13_1 u13_2 u13_6 u13_7 u13_17
def m_ticketlinelaw20_ArenaHolds_l13 (N : Nat) (s0 : (Int → (List (Int × (Int × ((Int × (Int × (ByteArray × (ByteArray × ((List (ByteArray × (ByteArray × Unit))) × ((List Int) × ((List (Int × (Int × Unit))) × Unit))))))) × Unit)))) → Int → (List (List Int)) → (List Int) → (List Int) → Option Bool)) (u13_0 : Int) (u13_1 : (List (Int × (Int × ((Int × (Int × (ByteArray × (ByteArray × ((List (ByteArray × (ByteArray × Unit))) × ((List Int) × ((List (Int × (Int × Unit))) × Unit))))))) × Unit))))) (u13_2 : Int) (u13_3 : Bool) (u13_4 : Int) (u13_5 : Int) (u13_6 : (List (List Int))) (u13_7 : (List Int)) (u13_8 : Int) (u13_9 : Int) (u13_10 : Int) (u13_11 : Int) (u13_12 : ByteArray) (u13_13 : ByteArray) (u13_14 : (List (ByteArray × (ByteArray × Unit)))) (u13_15 : (List Int)) (u13_16 : (List (Int × (Int × Unit)))) (u13_17 : (List Int)) : Option Bool := m_ticketlinelaw20_ArenaHolds_l13_b s0 (m_ticketlinelaw20_ArenaHolds_l6 N s0) (m_ticketlinelaw20_ArenaHolds_l14 N s0) u13_0 u13_1 u13_2 u13_3 u13_4 u13_5 u13_6 u13_7 u13_8 u13_9 u13_10 u13_11 u13_12 u13_13 u13_14 u13_15 u13_16 u13_17
def m_ticketlinelaw20_ArenaHolds_l18_b (s0 : (Int → (List (Int × (Int × ((Int × (Int × (ByteArray × (ByteArray × ((List (ByteArray × (ByteArray × Unit))) × ((List Int) × ((List (Int × (Int × Unit))) × Unit))))))) × Unit)))) → Int → (List (List Int)) → (List Int) → (List Int) → Option Bool)) (s17 : (Int → (List (Int × (Int × ((Int × (Int × (ByteArray × (ByteArray × ((List (ByteArray × (ByteArray × Unit))) × ((List Int) × ((List (Int × (Int × Unit))) × Unit))))))) × Unit)))) → Int → Int → Int → (List (List Int)) → (List Int) → Int → Int → Int → Int → ByteArray → ByteArray → (List (ByteArray × (ByteArray × Unit))) → (List Int) → (List (Int × (Int × Unit))) → (List Int) → Option Bool)) (u18_0 : Int) (u18_1 : (List (Int × (Int × ((Int × (Int × (ByteArray × (ByteArray × ((List (ByteArray × (ByteArray × Unit))) × ((List Int) × ((List (Int × (Int × Unit))) × Unit))))))) × Unit))))) (u18_2 : Int) (u18_3 : Int) (u18_4 : Int) (u18_5 : (List (List Int))) (u18_6 : (List Int)) (u18_7 : Int) (u18_8 : Int) (u18_9 : Int) (u18_10 : Int) (u18_11 : ByteArray) (u18_12 : ByteArray) (u18_13 : (List (ByteArray × (ByteArray × Unit)))) (u18_14 : (List Int)) (u18_15 : (List (Int × (Int × Unit)))) (u18_16 : (List Int)) : Option Bool :=
  s17 u18_0 u18_1 u18_2 u18_3 (IntKind.i64.wrap (u18_4 + (1 : Int))) u18_5 u18_6 u18_7 u18_8 u18_9 u18_10 u18_11 u18_12 u18_13 u18_14 u18_15 u18_16
def m_ticketlinelaw20_ArenaHolds_l18 (N : Nat) (s0 : (Int → (List (Int × (Int × ((Int × (Int × (ByteArray × (ByteArray × ((List (ByteArray × (ByteArray × Unit))) × ((List Int) × ((List (Int × (Int × Unit))) × Unit))))))) × Unit)))) → Int → (List (List Int)) → (List Int) → (List Int) → Option Bool)) (s17 : (Int → (List (Int × (Int × ((Int × (Int × (ByteArray × (ByteArray × ((List (ByteArray × (ByteArray × Unit))) × ((List Int) × ((List (Int × (Int × Unit))) × Unit))))))) × Unit)))) → Int → Int → Int → (List (List Int)) → (List Int) → Int → Int → Int → Int → ByteArray → ByteArray → (List (ByteArray × (ByteArray × Unit))) → (List Int) → (List (Int × (Int × Unit))) → (List Int) → Option Bool)) (u18_0 : Int) (u18_1 : (List (Int × (Int × ((Int × (Int × (ByteArray × (ByteArray × ((List (ByteArray × (ByteArray × Unit))) × ((List Int) × ((List (Int × (Int × Unit))) × Unit))))))) × Unit))))) (u18_2 : Int) (u18_3 : Int) (u18_4 : Int) (u18_5 : (List (List Int))) (u18_6 : (List Int)) (u18_7 : Int) (u18_8 : Int) (u18_9 : Int) (u18_10 : Int) (u18_11 : ByteArray) (u18_12 : ByteArray) (u18_13 : (List (ByteArray × (ByteArray × Unit)))) (u18_14 : (List Int)) (u18_15 : (List (Int × (Int × Unit)))) (u18_16 : (List Int)) : Option Bool := m_ticketlinelaw20_ArenaHolds_l18_b s0 s17 u18_0 u18_1 u18_2 u18_3 u18_4 u18_5 u18_6 u18_7 u18_8 u18_9 u18_10 u18_11 u18_12 u18_13 u18_14 u18_15 u18_16
def m_ticketlinelaw20_ArenaHolds_l17_b (s0 : (Int → (List (Int × (Int × ((Int × (Int × (ByteArray × (ByteArray × ((List (ByteArray × (ByteArray × Unit))) × ((List Int) × ((List (Int × (Int × Unit))) × Unit))))))) × Unit)))) → Int → (List (List Int)) → (List Int) → (List Int) → Option Bool)) (s17 : (Int → (List (Int × (Int × ((Int × (Int × (ByteArray × (ByteArray × ((List (ByteArray × (ByteArray × Unit))) × ((List Int) × ((List (Int × (Int × Unit))) × Unit))))))) × Unit)))) → Int → Int → Int → (List (List Int)) → (List Int) → Int → Int → Int → Int → ByteArray → ByteArray → (List (ByteArray × (ByteArray × Unit))) → (List Int) → (List (Int × (Int × Unit))) → (List Int) → Option Bool)) (l6 : (Int → (List (Int × (Int × ((Int × (Int × (ByteArray × (ByteArray × ((List (ByteArray × (ByteArray × Unit))) × ((List Int) × ((List (Int × (Int × Unit))) × Unit))))))) × Unit)))) → Int → (List (List Int)) → (List Int) → (List Int) → Option Bool)) (l18 : (Int → (List (Int × (Int × ((Int × (Int × (ByteArray × (ByteArray × ((List (ByteArray × (ByteArray × Unit))) × ((List Int) × ((List (Int × (Int × Unit))) × Unit))))))) × Unit)))) → Int → Int → Int → (List (List Int)) → (List Int) → Int → Int → Int → Int → ByteArray → ByteArray → (List (ByteArray × (ByteArray × Unit))) → (List Int) → (List (Int × (Int × Unit))) → (List Int) → Option Bool)) (u17_0 : Int) (u17_1 : (List (Int × (Int × ((Int × (Int × (ByteArray × (ByteArray × ((List (ByteArray × (ByteArray × Unit))) × ((List Int) × ((List (Int × (Int × Unit))) × Unit))))))) × Unit))))) (u17_2 : Int) (u17_3 : Int) (u17_4 : Int) (u17_5 : (List (List Int))) (u17_6 : (List Int)) (u17_7 : Int) (u17_8 : Int) (u17_9 : Int) (u17_10 : Int) (u17_11 : ByteArray) (u17_12 : ByteArray) (u17_13 : (List (ByteArray × (ByteArray × Unit)))) (u17_14 : (List Int)) (u17_15 : (List (Int × (Int × Unit)))) (u17_16 : (List Int)) : Option Bool :=
  if (decide (u17_4 ≤ u17_0)) = true then
  if (0 : Int) ≤ u17_4 then
   if u17_4 < (u17_6.length : Int) then
    if (decide ((rd (.int .i64) u17_6 u17_4) > (0 : Int))) = true then
     if (0 : Int) ≤ u17_4 then
      if u17_4 < (u17_6.length : Int) then
       if (decide ((rd (.int .i64) u17_6 u17_4) < u17_8)) = true then
        if (0 : Int) ≤ u17_4 then
         if u17_4 < (u17_6.length : Int) then
          l18 u17_0 u17_1 u17_2 (IntKind.i64.wrap (u17_3 - (1 : Int))) u17_4 u17_5 (List.set u17_6 u17_4.toNat (0 : Int)) u17_7 u17_8 u17_9 u17_10 u17_11 u17_12 u17_13 u17_14 u17_15 u17_16
         else none
        else none
       else
        l18 u17_0 u17_1 u17_2 u17_3 u17_4 u17_5 u17_6 u17_7 u17_8 u17_9 u17_10 u17_11 u17_12 u17_13 u17_14 u17_15 u17_16
      else none
     else none
    else
     l18 u17_0 u17_1 u17_2 u17_3 u17_4 u17_5 u17_6 u17_7 u17_8 u17_9 u17_10 u17_11 u17_12 u17_13 u17_14 u17_15 u17_16
   else none
  else none
  else
  if (u17_3 != (0 : Int)) = true then
   some false
  else
   l6 u17_0 u17_1 u17_2 u17_5 u17_6 u17_16
def m_ticketlinelaw20_ArenaHolds_l17 (N : Nat) (s0 : (Int → (List (Int × (Int × ((Int × (Int × (ByteArray × (ByteArray × ((List (ByteArray × (ByteArray × Unit))) × ((List Int) × ((List (Int × (Int × Unit))) × Unit))))))) × Unit)))) → Int → (List (List Int)) → (List Int) → (List Int) → Option Bool)) : Nat → Int → (List (Int × (Int × ((Int × (Int × (ByteArray × (ByteArray × ((List (ByteArray × (ByteArray × Unit))) × ((List Int) × ((List (Int × (Int × Unit))) × Unit))))))) × Unit)))) → Int → Int → Int → (List (List Int)) → (List Int) → Int → Int → Int → Int → ByteArray → ByteArray → (List (ByteArray × (ByteArray × Unit))) → (List Int) → (List (Int × (Int × Unit))) → (List Int) → Option Bool
  | 0, _, _, _, _, _, _, _, _, _, _, _, _, _, _, _, _, _ => none
  | n + 1, u17_0, u17_1, u17_2, u17_3, u17_4, u17_5, u17_6, u17_7, u17_8, u17_9, u17_10, u17_11, u17_12, u17_13, u17_14, u17_15, u17_16 => m_ticketlinelaw20_ArenaHolds_l17_b s0 (m_ticketlinelaw20_ArenaHolds_l17 N s0 n) (m_ticketlinelaw20_ArenaHolds_l6 N s0) (m_ticketlinelaw20_ArenaHolds_l18 N s0 (m_ticketlinelaw20_ArenaHolds_l17 N s0 n)) u17_0 u17_1 u17_2 u17_3 u17_4 u17_5 u17_6 u17_7 u17_8 u17_9 u17_10 u17_11 u17_12 u17_13 u17_14 u17_15 u17_16
def m_ticketlinelaw20_ArenaHolds_l16_b (s0 : (Int → (List (Int × (Int × ((Int × (Int × (ByteArray × (ByteArray × ((List (ByteArray × (ByteArray × Unit))) × ((List Int) × ((List (Int × (Int × Unit))) × Unit))))))) × Unit)))) → Int → (List (List Int)) → (List Int) → (List Int) → Option Bool)) (l17 : (Int → (List (Int × (Int × ((Int × (Int × (ByteArray × (ByteArray × ((List (ByteArray × (ByteArray × Unit))) × ((List Int) × ((List (Int × (Int × Unit))) × Unit))))))) × Unit)))) → Int → Int → Int → (List (List Int)) → (List Int) → Int → Int → Int → Int → ByteArray → ByteArray → (List (ByteArray × (ByteArray × Unit))) → (List Int) → (List (Int × (Int × Unit))) → (List Int) → Option Bool)) (u16_0 : Int) (u16_1 : (List (Int × (Int × ((Int × (Int × (ByteArray × (ByteArray × ((List (ByteArray × (ByteArray × Unit))) × ((List Int) × ((List (Int × (Int × Unit))) × Unit))))))) × Unit))))) (u16_2 : Int) (u16_3 : Int) (u16_4 : Int) (u16_5 : (List (List Int))) (u16_6 : (List Int)) (u16_7 : Int) (u16_8 : Int) (u16_9 : Int) (u16_10 : Int) (u16_11 : ByteArray) (u16_12 : ByteArray) (u16_13 : (List (ByteArray × (ByteArray × Unit)))) (u16_14 : (List Int)) (u16_15 : (List (Int × (Int × Unit)))) (u16_16 : (List Int)) : Option Bool :=
  l17 u16_0 u16_1 u16_2 u16_3 u16_4 u16_5 u16_6 u16_7 u16_8 u16_9 u16_10 u16_11 u16_12 u16_13 u16_14 u16_15 u16_16
def m_ticketlinelaw20_ArenaHolds_l16 (N : Nat) (s0 : (Int → (List (Int × (Int × ((Int × (Int × (ByteArray × (ByteArray × ((List (ByteArray × (ByteArray × Unit))) × ((List Int) × ((List (Int × (Int × Unit))) × Unit))))))) × Unit)))) → Int → (List (List Int)) → (List Int) → (List Int) → Option Bool)) (u16_0 : Int) (u16_1 : (List (Int × (Int × ((Int × (Int × (ByteArray × (ByteArray × ((List (ByteArray × (ByteArray × Unit))) × ((List Int) × ((List (Int × (Int × Unit))) × Unit))))))) × Unit))))) (u16_2 : Int) (u16_3 : Int) (u16_4 : Int) (u16_5 : (List (List Int))) (u16_6 : (List Int)) (u16_7 : Int) (u16_8 : Int) (u16_9 : Int) (u16_10 : Int) (u16_11 : ByteArray) (u16_12 : ByteArray) (u16_13 : (List (ByteArray × (ByteArray × Unit)))) (u16_14 : (List Int)) (u16_15 : (List (Int × (Int × Unit)))) (u16_16 : (List Int)) : Option Bool := m_ticketlinelaw20_ArenaHolds_l16_b s0 (m_ticketlinelaw20_ArenaHolds_l17 N s0 N) u16_0 u16_1 u16_2 u16_3 u16_4 u16_5 u16_6 u16_7 u16_8 u16_9 u16_10 u16_11 u16_12 u16_13 u16_14 u16_15 u16_16
def m_ticketlinelaw20_ArenaHolds_l15_b (s0 : (Int → (List (Int × (Int × ((Int × (Int × (ByteArray × (ByteArray × ((List (ByteArray × (ByteArray × Unit))) × ((List Int) × ((List (Int × (Int × Unit))) × Unit))))))) × Unit)))) → Int → (List (List Int)) → (List Int) → (List Int) → Option Bool)) (l6 : (Int → (List (Int × (Int × ((Int × (Int × (ByteArray × (ByteArray × ((List (ByteArray × (ByteArray × Unit))) × ((List Int) × ((List (Int × (Int × Unit))) × Unit))))))) × Unit)))) → Int → (List (List Int)) → (List Int) → (List Int) → Option Bool)) (l16 : (Int → (List (Int × (Int × ((Int × (Int × (ByteArray × (ByteArray × ((List (ByteArray × (ByteArray × Unit))) × ((List Int) × ((List (Int × (Int × Unit))) × Unit))))))) × Unit)))) → Int → Int → Int → (List (List Int)) → (List Int) → Int → Int → Int → Int → ByteArray → ByteArray → (List (ByteArray × (ByteArray × Unit))) → (List Int) → (List (Int × (Int × Unit))) → (List Int) → Option Bool)) (u15_0 : Int) (u15_1 : (List (Int × (Int × ((Int × (Int × (ByteArray × (ByteArray × ((List (ByteArray × (ByteArray × Unit))) × ((List Int) × ((List (Int × (Int × Unit))) × Unit))))))) × Unit))))) (u15_2 : Int) (u15_3 : Int) (u15_4 : Int) (u15_5 : (List (List Int))) (u15_6 : (List Int)) (u15_7 : Int) (u15_8 : Int) (u15_9 : Int) (u15_10 : Int) (u15_11 : ByteArray) (u15_12 : ByteArray) (u15_13 : (List (ByteArray × (ByteArray × Unit)))) (u15_14 : (List Int)) (u15_15 : (List (Int × (Int × Unit)))) (u15_16 : (List Int)) : Option Bool :=
  if (u15_4 == (0 : Int)) = true then
  l16 u15_0 u15_1 u15_2 u15_3 (1 : Int) u15_5 u15_6 u15_7 u15_8 u15_9 u15_10 u15_11 u15_12 u15_13 u15_14 u15_15 u15_16
  else
  l6 u15_0 u15_1 u15_2 u15_5 u15_6 u15_16
def m_ticketlinelaw20_ArenaHolds_l15 (N : Nat) (s0 : (Int → (List (Int × (Int × ((Int × (Int × (ByteArray × (ByteArray × ((List (ByteArray × (ByteArray × Unit))) × ((List Int) × ((List (Int × (Int × Unit))) × Unit))))))) × Unit)))) → Int → (List (List Int)) → (List Int) → (List Int) → Option Bool)) (u15_0 : Int) (u15_1 : (List (Int × (Int × ((Int × (Int × (ByteArray × (ByteArray × ((List (ByteArray × (ByteArray × Unit))) × ((List Int) × ((List (Int × (Int × Unit))) × Unit))))))) × Unit))))) (u15_2 : Int) (u15_3 : Int) (u15_4 : Int) (u15_5 : (List (List Int))) (u15_6 : (List Int)) (u15_7 : Int) (u15_8 : Int) (u15_9 : Int) (u15_10 : Int) (u15_11 : ByteArray) (u15_12 : ByteArray) (u15_13 : (List (ByteArray × (ByteArray × Unit)))) (u15_14 : (List Int)) (u15_15 : (List (Int × (Int × Unit)))) (u15_16 : (List Int)) : Option Bool := m_ticketlinelaw20_ArenaHolds_l15_b s0 (m_ticketlinelaw20_ArenaHolds_l6 N s0) (m_ticketlinelaw20_ArenaHolds_l16 N s0) u15_0 u15_1 u15_2 u15_3 u15_4 u15_5 u15_6 u15_7 u15_8 u15_9 u15_10 u15_11 u15_12 u15_13 u15_14 u15_15 u15_16
def m_ticketlinelaw20_ArenaHolds_l19_b (s0 : (Int → (List (Int × (Int × ((Int × (Int × (ByteArray × (ByteArray × ((List (ByteArray × (ByteArray × Unit))) × ((List Int) × ((List (Int × (Int × Unit))) × Unit))))))) × Unit)))) → Int → (List (List Int)) → (List Int) → (List Int) → Option Bool)) (l6 : (Int → (List (Int × (Int × ((Int × (Int × (ByteArray × (ByteArray × ((List (ByteArray × (ByteArray × Unit))) × ((List Int) × ((List (Int × (Int × Unit))) × Unit))))))) × Unit)))) → Int → (List (List Int)) → (List Int) → (List Int) → Option Bool)) (u19_0 : Int) (u19_1 : (List (Int × (Int × ((Int × (Int × (ByteArray × (ByteArray × ((List (ByteArray × (ByteArray × Unit))) × ((List Int) × ((List (Int × (Int × Unit))) × Unit))))))) × Unit))))) (u19_2 : Int) (u19_3 : (List (List Int))) (u19_4 : (List Int)) (u19_5 : Int) (u19_6 : Int) (u19_7 : Int) (u19_8 : Int) (u19_9 : ByteArray) (u19_10 : ByteArray) (u19_11 : (List (ByteArray × (ByteArray × Unit)))) (u19_12 : (List Int)) (u19_13 : (List (Int × (Int × Unit)))) (u19_14 : (List Int)) (u19_15 : (List Int)) : Option Bool :=
  if (0 : Int) ≤ u19_6 then
  if u19_6 < (u19_3.length : Int) then
   l6 u19_0 u19_1 u19_2 (List.set u19_3 u19_6.toNat u19_14) u19_4 u19_15
  else none
  else none
def m_ticketlinelaw20_ArenaHolds_l19 (N : Nat) (s0 : (Int → (List (Int × (Int × ((Int × (Int × (ByteArray × (ByteArray × ((List (ByteArray × (ByteArray × Unit))) × ((List Int) × ((List (Int × (Int × Unit))) × Unit))))))) × Unit)))) → Int → (List (List Int)) → (List Int) → (List Int) → Option Bool)) (u19_0 : Int) (u19_1 : (List (Int × (Int × ((Int × (Int × (ByteArray × (ByteArray × ((List (ByteArray × (ByteArray × Unit))) × ((List Int) × ((List (Int × (Int × Unit))) × Unit))))))) × Unit))))) (u19_2 : Int) (u19_3 : (List (List Int))) (u19_4 : (List Int)) (u19_5 : Int) (u19_6 : Int) (u19_7 : Int) (u19_8 : Int) (u19_9 : ByteArray) (u19_10 : ByteArray) (u19_11 : (List (ByteArray × (ByteArray × Unit)))) (u19_12 : (List Int)) (u19_13 : (List (Int × (Int × Unit)))) (u19_14 : (List Int)) (u19_15 : (List Int)) : Option Bool := m_ticketlinelaw20_ArenaHolds_l19_b s0 (m_ticketlinelaw20_ArenaHolds_l6 N s0) u19_0 u19_1 u19_2 u19_3 u19_4 u19_5 u19_6 u19_7 u19_8 u19_9 u19_10 u19_11 u19_12 u19_13 u19_14 u19_15
def m_ticketlinelaw20_ArenaHolds_l3_b (s0 : (Int → (List (Int × (Int × ((Int × (Int × (ByteArray × (ByteArray × ((List (ByteArray × (ByteArray × Unit))) × ((List Int) × ((List (Int × (Int × Unit))) × Unit))))))) × Unit)))) → Int → (List (List Int)) → (List Int) → (List Int) → Option Bool)) (l4 : (Int → (List (Int × (Int × ((Int × (Int × (ByteArray × (ByteArray × ((List (ByteArray × (ByteArray × Unit))) × ((List Int) × ((List (Int × (Int × Unit))) × Unit))))))) × Unit)))) → Int → Int → Int → (List (List Int)) → (List Int) → (List Int) → (List Int) → Option Bool)) (l6 : (Int → (List (Int × (Int × ((Int × (Int × (ByteArray × (ByteArray × ((List (ByteArray × (ByteArray × Unit))) × ((List Int) × ((List (Int × (Int × Unit))) × Unit))))))) × Unit)))) → Int → (List (List Int)) → (List Int) → (List Int) → Option Bool)) (l12 : (Int → (List (Int × (Int × ((Int × (Int × (ByteArray × (ByteArray × ((List (ByteArray × (ByteArray × Unit))) × ((List Int) × ((List (Int × (Int × Unit))) × Unit))))))) × Unit)))) → Int → (List (List Int)) → (List Int) → Int → Int → Int → Int → ByteArray → ByteArray → (List (ByteArray × (ByteArray × Unit))) → (List Int) → (List (Int × (Int × Unit))) → (List Int) → Option Bool)) (l13 : (Int → (List (Int × (Int × ((Int × (Int × (ByteArray × (ByteArray × ((List (ByteArray × (ByteArray × Unit))) × ((List Int) × ((List (Int × (Int × Unit))) × Unit))))))) × Unit)))) → Int → Bool → Int → Int → (List (List Int)) → (List Int) → Int → Int → Int → Int → ByteArray → ByteArray → (List (ByteArray × (ByteArray × Unit))) → (List Int) → (List (Int × (Int × Unit))) → (List Int) → Option Bool)) (l15 : (Int → (List (Int × (Int × ((Int × (Int × (ByteArray × (ByteArray × ((List (ByteArray × (ByteArray × Unit))) × ((List Int) × ((List (Int × (Int × Unit))) × Unit))))))) × Unit)))) → Int → Int → Int → (List (List Int)) → (List Int) → Int → Int → Int → Int → ByteArray → ByteArray → (List (ByteArray × (ByteArray × Unit))) → (List Int) → (List (Int × (Int × Unit))) → (List Int) → Option Bool)) (l19 : (Int → (List (Int × (Int × ((Int × (Int × (ByteArray × (ByteArray × ((List (ByteArray × (ByteArray × Unit))) × ((List Int) × ((List (Int × (Int × Unit))) × Unit))))))) × Unit)))) → Int → (List (List Int)) → (List Int) → Int → Int → Int → Int → ByteArray → ByteArray → (List (ByteArray × (ByteArray × Unit))) → (List Int) → (List (Int × (Int × Unit))) → (List Int) → (List Int) → Option Bool)) (u3_0 : Int) (u3_1 : (List (Int × (Int × ((Int × (Int × (ByteArray × (ByteArray × ((List (ByteArray × (ByteArray × Unit))) × ((List Int) × ((List (Int × (Int × Unit))) × Unit))))))) × Unit))))) (u3_2 : Int) (u3_3 : Bool) (u3_4 : Int) (u3_5 : (List (List Int))) (u3_6 : (List Int)) (u3_7 : Int) (u3_8 : Int) (u3_9 : Int) (u3_10 : Int) (u3_11 : ByteArray) (u3_12 : ByteArray) (u3_13 : (List (ByteArray × (ByteArray × Unit)))) (u3_14 : (List Int)) (u3_15 : (List (Int × (Int × Unit)))) (u3_16 : (List Int)) (u3_17 : (List Int)) : Option Bool :=
  if (u3_4 == (0 : Int)) = true then
  Option.bind (m_arena_Arena_Alloc (((u3_17, ()), ()), ()) u3_16) fun r27 =>
  l4 u3_0 u3_1 u3_2 r27.1 r27.2.1 u3_5 u3_6 u3_16 r27.2.2.1.1.1
  else
  if (u3_4 == (1 : Int)) = true then
   Option.bind (m_arena_Arena_Release (((u3_17, ()), ()), ()) u3_8) fun r62 =>
   if (r62.1 == (0 : Int)) = true then
    if (!u3_3) = true then
     some false
    else
     l12 u3_0 u3_1 u3_2 u3_5 u3_6 u3_7 u3_8 u3_9 u3_10 u3_11 u3_12 u3_13 u3_14 u3_15 r62.2.1.1.1
   else
    l6 u3_0 u3_1 u3_2 u3_5 u3_6 r62.2.1.1.1
  else
   if (u3_4 == (2 : Int)) = true then
    Option.bind (m_arena_Arena_Defer (((u3_17, ()), ()), ()) u3_8) fun r67 =>
    l13 u3_0 u3_1 u3_2 u3_3 r67.1 r67.2.1 u3_5 u3_6 u3_7 u3_8 u3_9 u3_10 u3_11 u3_12 u3_13 u3_14 u3_15 r67.2.2.1.1.1
   else
    if (u3_4 == (3 : Int)) = true then
     Option.bind (m_arena_Arena_Reclaim (((u3_17, ()), ()), ()) u3_8) fun r74 =>
     l15 u3_0 u3_1 u3_2 r74.1 r74.2.1 u3_5 u3_6 u3_7 u3_8 u3_9 u3_10 u3_11 u3_12 u3_13 u3_14 u3_15 r74.2.2.1.1.1
    else
     if (u3_4 == (4 : Int)) = true then
      Option.bind (m_arena_Arena_Write (((u3_17, ()), ()), ()) u3_8 u3_16) fun r86 =>
      if (r86.1 == (0 : Int)) = true then
       if (!u3_3) = true then
        some false
       else
        l19 u3_0 u3_1 u3_2 u3_5 u3_6 u3_7 u3_8 u3_9 u3_10 u3_11 u3_12 u3_13 u3_14 u3_15 u3_16 r86.2.1.1.1
      else
       l6 u3_0 u3_1 u3_2 u3_5 u3_6 r86.2.1.1.1
     else
      l6 u3_0 u3_1 u3_2 u3_5 u3_6 u3_17
def m_ticketlinelaw20_ArenaHolds_l3 (N : Nat) (s0 : (Int → (List (Int × (Int × ((Int × (Int × (ByteArray × (ByteArray × ((List (ByteArray × (ByteArray × Unit))) × ((List Int) × ((List (Int × (Int × Unit))) × Unit))))))) × Unit)))) → Int → (List (List Int)) → (List Int) → (List Int) → Option Bool)) (u3_0 : Int) (u3_1 : (List (Int × (Int × ((Int × (Int × (ByteArray × (ByteArray × ((List (ByteArray × (ByteArray × Unit))) × ((List Int) × ((List (Int × (Int × Unit))) × Unit))))))) × Unit))))) (u3_2 : Int) (u3_3 : Bool) (u3_4 : Int) (u3_5 : (List (List Int))) (u3_6 : (List Int)) (u3_7 : Int) (u3_8 : Int) (u3_9 : Int) (u3_10 : Int) (u3_11 : ByteArray) (u3_12 : ByteArray) (u3_13 : (List (ByteArray × (ByteArray × Unit)))) (u3_14 : (List Int)) (u3_15 : (List (Int × (Int × Unit)))) (u3_16 : (List Int)) (u3_17 : (List Int)) : Option Bool := m_ticketlinelaw20_ArenaHolds_l3_b s0 (m_ticketlinelaw20_ArenaHolds_l4 N s0) (m_ticketlinelaw20_ArenaHolds_l6 N s0) (m_ticketlinelaw20_ArenaHolds_l12 N s0) (m_ticketlinelaw20_ArenaHolds_l13 N s0) (m_ticketlinelaw20_ArenaHolds_l15 N s0) (m_ticketlinelaw20_ArenaHolds_l19 N s0) u3_0 u3_1 u3_2 u3_3 u3_4 u3_5 u3_6 u3_7 u3_8 u3_9 u3_10 u3_11 u3_12 u3_13 u3_14 u3_15 u3_16 u3_17
def m_ticketlinelaw20_ArenaHolds_l2_b (s0 : (Int → (List (Int × (Int × ((Int × (Int × (ByteArray × (ByteArray × ((List (ByteArray × (ByteArray × Unit))) × ((List Int) × ((List (Int × (Int × Unit))) × Unit))))))) × Unit)))) → Int → (List (List Int)) → (List Int) → (List Int) → Option Bool)) (l3 : (Int → (List (Int × (Int × ((Int × (Int × (ByteArray × (ByteArray × ((List (ByteArray × (ByteArray × Unit))) × ((List Int) × ((List (Int × (Int × Unit))) × Unit))))))) × Unit)))) → Int → Bool → Int → (List (List Int)) → (List Int) → Int → Int → Int → Int → ByteArray → ByteArray → (List (ByteArray × (ByteArray × Unit))) → (List Int) → (List (Int × (Int × Unit))) → (List Int) → (List Int) → Option Bool)) (u2_0 : Int) (u2_1 : (List (Int × (Int × ((Int × (Int × (ByteArray × (ByteArray × ((List (ByteArray × (ByteArray × Unit))) × ((List Int) × ((List (Int × (Int × Unit))) × Unit))))))) × Unit))))) (u2_2 : Int) (u2_3 : Bool) (u2_4 : (List (List Int))) (u2_5 : (List Int)) (u2_6 : Int) (u2_7 : Int) (u2_8 : Int) (u2_9 : Int) (u2_10 : ByteArray) (u2_11 : ByteArray) (u2_12 : (List (ByteArray × (ByteArray × Unit)))) (u2_13 : (List Int)) (u2_14 : (List (Int × (Int × Unit)))) (u2_15 : (List Int)) (u2_16 : (List Int)) : Option Bool :=
  l3 u2_0 u2_1 u2_2 u2_3 u2_6 u2_4 u2_5 u2_6 u2_7 u2_8 u2_9 u2_10 u2_11 u2_12 u2_13 u2_14 u2_15 u2_16
def m_ticketlinelaw20_ArenaHolds_l2 (N : Nat) (s0 : (Int → (List (Int × (Int × ((Int × (Int × (ByteArray × (ByteArray × ((List (ByteArray × (ByteArray × Unit))) × ((List Int) × ((List (Int × (Int × Unit))) × Unit))))))) × Unit)))) → Int → (List (List Int)) → (List Int) → (List Int) → Option Bool)) (u2_0 : Int) (u2_1 : (List (Int × (Int × ((Int × (Int × (ByteArray × (ByteArray × ((List (ByteArray × (ByteArray × Unit))) × ((List Int) × ((List (Int × (Int × Unit))) × Unit))))))) × Unit))))) (u2_2 : Int) (u2_3 : Bool) (u2_4 : (List (List Int))) (u2_5 : (List Int)) (u2_6 : Int) (u2_7 : Int) (u2_8 : Int) (u2_9 : Int) (u2_10 : ByteArray) (u2_11 : ByteArray) (u2_12 : (List (ByteArray × (ByteArray × Unit)))) (u2_13 : (List Int)) (u2_14 : (List (Int × (Int × Unit)))) (u2_15 : (List Int)) (u2_16 : (List Int)) : Option Bool := m_ticketlinelaw20_ArenaHolds_l2_b s0 (m_ticketlinelaw20_ArenaHolds_l3 N s0) u2_0 u2_1 u2_2 u2_3 u2_4 u2_5 u2_6 u2_7 u2_8 u2_9 u2_10 u2_11 u2_12 u2_13 u2_14 u2_15 u2_16
def m_ticketlinelaw20_ArenaHolds_l1_b (s0 : (Int → (List (Int × (Int × ((Int × (Int × (ByteArray × (ByteArray × ((List (ByteArray × (ByteArray × Unit))) × ((List Int) × ((List (Int × (Int × Unit))) × Unit))))))) × Unit)))) → Int → (List (List Int)) → (List Int) → (List Int) → Option Bool)) (l2 : (Int → (List (Int × (Int × ((Int × (Int × (ByteArray × (ByteArray × ((List (ByteArray × (ByteArray × Unit))) × ((List Int) × ((List (Int × (Int × Unit))) × Unit))))))) × Unit)))) → Int → Bool → (List (List Int)) → (List Int) → Int → Int → Int → Int → ByteArray → ByteArray → (List (ByteArray × (ByteArray × Unit))) → (List Int) → (List (Int × (Int × Unit))) → (List Int) → (List Int) → Option Bool)) (u1_0 : Int) (u1_1 : (List (Int × (Int × ((Int × (Int × (ByteArray × (ByteArray × ((List (ByteArray × (ByteArray × Unit))) × ((List Int) × ((List (Int × (Int × Unit))) × Unit))))))) × Unit))))) (u1_2 : Int) (u1_3 : (List (List Int))) (u1_4 : (List Int)) (u1_5 : Int) (u1_6 : Int) (u1_7 : Int) (u1_8 : Int) (u1_9 : ByteArray) (u1_10 : ByteArray) (u1_11 : (List (ByteArray × (ByteArray × Unit)))) (u1_12 : (List Int)) (u1_13 : (List (Int × (Int × Unit)))) (u1_14 : (List Int)) (u1_15 : (List Int)) : Option Bool :=
  if (decide (u1_6 ≥ (1 : Int))) = true then
  l2 u1_0 u1_1 u1_2 (decide (u1_6 ≤ u1_0)) u1_3 u1_4 u1_5 u1_6 u1_7 u1_8 u1_9 u1_10 u1_11 u1_12 u1_13 u1_14 u1_15
  else
  l2 u1_0 u1_1 u1_2 false u1_3 u1_4 u1_5 u1_6 u1_7 u1_8 u1_9 u1_10 u1_11 u1_12 u1_13 u1_14 u1_15
def m_ticketlinelaw20_ArenaHolds_l1 (N : Nat) (s0 : (Int → (List (Int × (Int × ((Int × (Int × (ByteArray × (ByteArray × ((List (ByteArray × (ByteArray × Unit))) × ((List Int) × ((List (Int × (Int × Unit))) × Unit))))))) × Unit)))) → Int → (List (List Int)) → (List Int) → (List Int) → Option Bool)) (u1_0 : Int) (u1_1 : (List (Int × (Int × ((Int × (Int × (ByteArray × (ByteArray × ((List (ByteArray × (ByteArray × Unit))) × ((List Int) × ((List (Int × (Int × Unit))) × Unit))))))) × Unit))))) (u1_2 : Int) (u1_3 : (List (List Int))) (u1_4 : (List Int)) (u1_5 : Int) (u1_6 : Int) (u1_7 : Int) (u1_8 : Int) (u1_9 : ByteArray) (u1_10 : ByteArray) (u1_11 : (List (ByteArray × (ByteArray × Unit)))) (u1_12 : (List Int)) (u1_13 : (List (Int × (Int × Unit)))) (u1_14 : (List Int)) (u1_15 : (List Int)) : Option Bool := m_ticketlinelaw20_ArenaHolds_l1_b s0 (m_ticketlinelaw20_ArenaHolds_l2 N s0) u1_0 u1_1 u1_2 u1_3 u1_4 u1_5 u1_6 u1_7 u1_8 u1_9 u1_10 u1_11 u1_12 u1_13 u1_14 u1_15
def m_ticketlinelaw20_ArenaHolds_l0_b (s0 : (Int → (List (Int × (Int × ((Int × (Int × (ByteArray × (ByteArray × ((List (ByteArray × (ByteArray × Unit))) × ((List Int) × ((List (Int × (Int × Unit))) × Unit))))))) × Unit)))) → Int → (List (List Int)) → (List Int) → (List Int) → Option Bool)) (l1 : (Int → (List (Int × (Int × ((Int × (Int × (ByteArray × (ByteArray × ((List (ByteArray × (ByteArray × Unit))) × ((List Int) × ((List (Int × (Int × Unit))) × Unit))))))) × Unit)))) → Int → (List (List Int)) → (List Int) → Int → Int → Int → Int → ByteArray → ByteArray → (List (ByteArray × (ByteArray × Unit))) → (List Int) → (List (Int × (Int × Unit))) → (List Int) → (List Int) → Option Bool)) (u0_0 : Int) (u0_1 : (List (Int × (Int × ((Int × (Int × (ByteArray × (ByteArray × ((List (ByteArray × (ByteArray × Unit))) × ((List Int) × ((List (Int × (Int × Unit))) × Unit))))))) × Unit))))) (u0_2 : Int) (u0_3 : (List (List Int))) (u0_4 : (List Int)) (u0_5 : (List Int)) : Option Bool :=
  if (decide (u0_2 < (u0_1.length : Int))) = true then
  if (0 : Int) ≤ u0_2 then
   if u0_2 < (u0_1.length : Int) then
    let v20 := (rd (.pair (.int .i64) (.pair (.int .i64) (.pair (.pair (.int .i64) (.pair (.int .i64) (.pair .str (.pair .str (.pair (.sl (.pair .str (.pair .str .nl))) (.pair (.sl (.int .u8)) (.pair (.sl (.pair (.int .u8) (.pair (.int .u64) .nl))) .nl))))))) .nl))) u0_1 u0_2)
    Option.bind (m_ticketlineref14_Plan_Page v20.2.2.1) fun r21 =>
    if (!r21.2) = true then
     l1 u0_0 u0_1 u0_2 u0_3 u0_4 v20.1 v20.2.1 v20.2.2.1.1 v20.2.2.1.2.1 v20.2.2.1.2.2.1 v20.2.2.1.2.2.2.1 v20.2.2.1.2.2.2.2.1 v20.2.2.1.2.2.2.2.2.1 v20.2.2.1.2.2.2.2.2.2.1 (List.replicate 128 (0 : Int)) u0_5
    else
     l1 u0_0 u0_1 u0_2 u0_3 u0_4 v20.1 v20.2.1 v20.2.2.1.1 v20.2.2.1.2.1 v20.2.2.1.2.2.1 v20.2.2.1.2.2.2.1 v20.2.2.1.2.2.2.2.1 v20.2.2.1.2.2.2.2.2.1 v20.2.2.1.2.2.2.2.2.2.1 r21.1 u0_5
   else none
  else none
  else
  Option.bind (m_ticketlinelaw20_known) fun r89 =>
  some r89
def m_ticketlinelaw20_ArenaHolds_l0 (N : Nat) : Nat → Int → (List (Int × (Int × ((Int × (Int × (ByteArray × (ByteArray × ((List (ByteArray × (ByteArray × Unit))) × ((List Int) × ((List (Int × (Int × Unit))) × Unit))))))) × Unit)))) → Int → (List (List Int)) → (List Int) → (List Int) → Option Bool
  | 0, _, _, _, _, _, _ => none
  | n + 1, u0_0, u0_1, u0_2, u0_3, u0_4, u0_5 => m_ticketlinelaw20_ArenaHolds_l0_b (m_ticketlinelaw20_ArenaHolds_l0 N n) (m_ticketlinelaw20_ArenaHolds_l1 N (m_ticketlinelaw20_ArenaHolds_l0 N n)) u0_0 u0_1 u0_2 u0_3 u0_4 u0_5
def m_ticketlinelaw20_ArenaHolds_a (l0 : (Int → (List (Int × (Int × ((Int × (Int × (ByteArray × (ByteArray × ((List (ByteArray × (ByteArray × Unit))) × ((List Int) × ((List (Int × (Int × Unit))) × Unit))))))) × Unit)))) → Int → (List (List Int)) → (List Int) → (List Int) → Option Bool)) (x0 : Int) (x1 : (List (Int × (Int × ((Int × (Int × (ByteArray × (ByteArray × ((List (ByteArray × (ByteArray × Unit))) × ((List Int) × ((List (Int × (Int × Unit))) × Unit))))))) × Unit))))) : Option Bool :=
  if (decide (x0 < (1 : Int))) = true then
  Option.bind (m_ticketlinelaw20_known) fun r2 =>
  some r2
  else
  if (decide (x0 > (6 : Int))) = true then
   Option.bind (m_ticketlinelaw20_known) fun r4 =>
   some r4
  else
   if (decide ((x1.length : Int) > (24 : Int))) = true then
    Option.bind (m_ticketlinelaw20_known) fun r7 =>
    some r7
   else
    Option.bind (m_ticketlinelaw20_memory (IntKind.i64.wrap ((16 : Int) + (IntKind.i64.wrap ((128 : Int) * x0))))) fun r10 =>
    Option.bind (m_arena_Format (r10.1, ()) x0) fun r11 =>
    (match r11.1 with
    | none =>
     some false
    | some y12 =>
     if (r11.2.1 != (0 : Int)) = true then
      some false
     else
      let v14 := (IntKind.i64.wrap (x0 + (1 : Int)))
      if (0 : Int) ≤ v14 then
       if v14 ≤ v14 then
        if fits v14.toNat 1024 then
         let v16 := (IntKind.i64.wrap (x0 + (1 : Int)))
         if (0 : Int) ≤ v16 then
          if v16 ≤ v16 then
           if fits v16.toNat 8 then
            l0 x0 x1 (0 : Int) (List.replicate v14.toNat (List.replicate 128 (0 : Int))) (List.replicate v16.toNat (0 : Int)) y12.1.1.1
           else none
          else none
         else none
        else none
       else none
      else none)
def m_ticketlinelaw20_ArenaHolds (x0 : Int) (x1 : (List (Int × (Int × ((Int × (Int × (ByteArray × (ByteArray × ((List (ByteArray × (ByteArray × Unit))) × ((List Int) × ((List (Int × (Int × Unit))) × Unit))))))) × Unit))))) : Option Bool := m_ticketlinelaw20_ArenaHolds_a (m_ticketlinelaw20_ArenaHolds_l0 FUEL FUEL) x0 x1
def m_ticketlineref20_Arena_put_l0_b (s0 : (Int → Int → (List Int) → (List Int) → Option ((List Int) × Unit))) (u0_0 : Int) (u0_1 : Int) (u0_2 : (List Int)) (u0_3 : (List Int)) : Option ((List Int) × Unit) :=
  if (decide (u0_1 < (128 : Int))) = true then
  Option.bind (m_ticketlineref20_at u0_0 u0_1) fun r2 =>
  if (0 : Int) ≤ u0_1 then
   if u0_1 < (128 : Int) then
    if (0 : Int) ≤ r2 then
     if r2 < (u0_3.length : Int) then
      s0 u0_0 (IntKind.i64.wrap (u0_1 + (1 : Int))) u0_2 (List.set u0_3 r2.toNat (rd (.int .u64) u0_2 u0_1))
     else none
    else none
   else none
  else none
  else
  some (u0_3, ())
def m_ticketlineref20_Arena_put_l0 (N : Nat) : Nat → Int → Int → (List Int) → (List Int) → Option ((List Int) × Unit)
  | 0, _, _, _, _ => none
  | n + 1, u0_0, u0_1, u0_2, u0_3 => m_ticketlineref20_Arena_put_l0_b (m_ticketlineref20_Arena_put_l0 N n) u0_0 u0_1 u0_2 u0_3
def m_ticketlineref20_Arena_put_a (l0 : (Int → Int → (List Int) → (List Int) → Option ((List Int) × Unit))) (x0 : ((List Int) × Unit)) (x1 : Int) (x2 : (List Int)) : Option ((List Int) × Unit) :=
  l0 x1 (8 : Int) x2 x0.1
def m_ticketlineref20_Arena_put (x0 : ((List Int) × Unit)) (x1 : Int) (x2 : (List Int)) : Option ((List Int) × Unit) := m_ticketlineref20_Arena_put_a (m_ticketlineref20_Arena_put_l0 FUEL FUEL) x0 x1 x2
def m_ticketlineref20_Arena_free (x0 : ((List Int) × Unit)) (x1 : Int) : Option ((List Int) × Unit) :=
  if (1 : Int) < (x0.1.length : Int) then
  Option.bind (m_ticketlineref20_Arena_put (x0.1, ()) x1 (List.set (List.replicate 128 (0 : Int)) 10 (rd (.int .u64) x0.1 (1 : Int)))) fun r4 =>
  if (1 : Int) < (r4.1.length : Int) then
   some ((List.set r4.1 1 (IntKind.u64.wrap x1)), ())
  else none
  else none
def m_ticketlineref20_Arena_list_l0_b (s0 : (Int → Int → (List Int) → (List Int) → Option ((List Int) × Bool × ((List Int) × Unit)))) (u0_0 : Int) (u0_1 : Int) (u0_2 : (List Int)) (u0_3 : (List Int)) : Option ((List Int) × Bool × ((List Int) × Unit)) :=
  if (u0_1 != (0 : Int)) = true then
  if (0 : Int) < (u0_3.length : Int) then
   if (decide (u0_1 > (rd (.int .u64) u0_3 (0 : Int)))) = true then
    some (([] : List Int), false, (u0_3, ()))
   else
    Option.bind (m_ticketlineref20_Arena_Pages (u0_3, ())) fun r5 =>
    if (decide ((u0_2.length : Int) > r5.1)) = true then
     some (([] : List Int), false, (r5.2.1, ()))
    else
     Option.bind (m_ticketlineref20_at (IntKind.i64.wrap u0_1) (8 : Int)) fun r8 =>
     if (0 : Int) ≤ r8 then
      if r8 < (r5.2.1.length : Int) then
       if ((rd (.int .u64) r5.2.1 r8) != u0_0) = true then
        some (([] : List Int), false, (r5.2.1, ()))
       else
        let v11 := ([(IntKind.i64.wrap u0_1)] : List Int)
        if fits (List.length u0_2 + List.length v11) 8 then
         Option.bind (m_ticketlineref20_at (IntKind.i64.wrap u0_1) (10 : Int)) fun r13 =>
         if (0 : Int) ≤ r13 then
          if r13 < (r5.2.1.length : Int) then
           s0 u0_0 (rd (.int .u64) r5.2.1 r13) (u0_2 ++ v11) r5.2.1
          else none
         else none
        else none
      else none
     else none
  else none
  else
  some (u0_2, true, (u0_3, ()))
def m_ticketlineref20_Arena_list_l0 (N : Nat) : Nat → Int → Int → (List Int) → (List Int) → Option ((List Int) × Bool × ((List Int) × Unit))
  | 0, _, _, _, _ => none
  | n + 1, u0_0, u0_1, u0_2, u0_3 => m_ticketlineref20_Arena_list_l0_b (m_ticketlineref20_Arena_list_l0 N n) u0_0 u0_1 u0_2 u0_3
def m_ticketlineref20_Arena_list_a (l0 : (Int → Int → (List Int) → (List Int) → Option ((List Int) × Bool × ((List Int) × Unit)))) (x0 : ((List Int) × Unit)) (x1 : Int) (x2 : Int) : Option ((List Int) × Bool × ((List Int) × Unit)) :=
  l0 x2 x1 ([] : List Int) x0.1
def m_ticketlineref20_Arena_list (x0 : ((List Int) × Unit)) (x1 : Int) (x2 : Int) : Option ((List Int) × Bool × ((List Int) × Unit)) := m_ticketlineref20_Arena_list_a (m_ticketlineref20_Arena_list_l0 FUEL FUEL) x0 x1 x2
def m_ticketlineref20_Arena_Reclaim_l0_b (s0 : (Int → Int → Int → (List Int) → (List Int) → (List Int) → Option (Int × Int × ((List Int) × Unit)))) (u0_0 : Int) (u0_1 : Int) (u0_2 : Int) (u0_3 : (List Int)) (u0_4 : (List Int)) (u0_5 : (List Int)) : Option (Int × Int × ((List Int) × Unit)) :=
  if (decide (u0_2 < (u0_3.length : Int))) = true then
  if (0 : Int) ≤ u0_2 then
   if u0_2 < (u0_3.length : Int) then
    Option.bind (m_ticketlineref20_at (rd (.int .i64) u0_3 u0_2) (11 : Int)) fun r8 =>
    if (0 : Int) ≤ r8 then
     if r8 < (u0_5.length : Int) then
      if (decide ((rd (.int .u64) u0_5 r8) < (IntKind.u64.wrap u0_0))) = true then
       if (0 : Int) ≤ u0_2 then
        if u0_2 < (u0_3.length : Int) then
         Option.bind (m_ticketlineref20_Arena_free (u0_5, ()) (rd (.int .i64) u0_3 u0_2)) fun r13 =>
         s0 u0_0 (IntKind.i64.wrap (u0_1 + (1 : Int))) (IntKind.i64.wrap (u0_2 + (1 : Int))) u0_3 u0_4 r13.1
        else none
       else none
      else
       if (0 : Int) ≤ u0_2 then
        if u0_2 < (u0_3.length : Int) then
         let v17 := ([(rd (.int .i64) u0_3 u0_2)] : List Int)
         if fits (List.length u0_4 + List.length v17) 8 then
          s0 u0_0 u0_1 (IntKind.i64.wrap (u0_2 + (1 : Int))) u0_3 (u0_4 ++ v17) u0_5
         else none
        else none
       else none
     else none
    else none
   else none
  else none
  else
  if ((u0_4.length : Int) == (0 : Int)) = true then
   if (2 : Int) < (u0_5.length : Int) then
    some (u0_1, (0 : Int), ((List.set u0_5 2 (0 : Int)), ()))
   else none
  else
   let v23 := (IntKind.i64.wrap ((u0_4.length : Int) - (1 : Int)))
   if (0 : Int) ≤ v23 then
    if v23 < (u0_4.length : Int) then
     Option.bind (m_ticketlineref20_at (rd (.int .i64) u0_4 v23) (10 : Int)) fun r25 =>
     if (0 : Int) ≤ r25 then
      if r25 < (u0_5.length : Int) then
       some (u0_1, (0 : Int), ((List.set u0_5 r25.toNat (0 : Int)), ()))
      else none
     else none
    else none
   else none
def m_ticketlineref20_Arena_Reclaim_l0 (N : Nat) : Nat → Int → Int → Int → (List Int) → (List Int) → (List Int) → Option (Int × Int × ((List Int) × Unit))
  | 0, _, _, _, _, _, _ => none
  | n + 1, u0_0, u0_1, u0_2, u0_3, u0_4, u0_5 => m_ticketlineref20_Arena_Reclaim_l0_b (m_ticketlineref20_Arena_Reclaim_l0 N n) u0_0 u0_1 u0_2 u0_3 u0_4 u0_5
def m_ticketlineref20_Arena_Reclaim_a (l0 : (Int → Int → Int → (List Int) → (List Int) → (List Int) → Option (Int × Int × ((List Int) × Unit)))) (x0 : ((List Int) × Unit)) (x1 : Int) : Option (Int × Int × ((List Int) × Unit)) :=
  if (decide (x1 < (0 : Int))) = true then
  some ((0 : Int), (2 : Int), (x0.1, ()))
  else
  if (decide (x1 > (1099511627776 : Int))) = true then
   some ((0 : Int), (2 : Int), (x0.1, ()))
  else
   if (2 : Int) < (x0.1.length : Int) then
    Option.bind (m_ticketlineref20_Arena_list (x0.1, ()) (rd (.int .u64) x0.1 (2 : Int)) (255 : Int)) fun r4 =>
    l0 x1 (0 : Int) (0 : Int) r4.1 ([] : List Int) r4.2.2.1
   else none
def m_ticketlineref20_Arena_Reclaim (x0 : ((List Int) × Unit)) (x1 : Int) : Option (Int × Int × ((List Int) × Unit)) := m_ticketlineref20_Arena_Reclaim_a (m_ticketlineref20_Arena_Reclaim_l0 FUEL FUEL) x0 x1
end Go.Ev.M
