/- A part of the proof of a statement of this seat: the plain models of the functions. No condition. -/
import Derived.Test.YtbmdoalneeeonabM14
import Derived.Test.YtbmdoalneeeonabMA
set_option linter.unusedVariables false
namespace Go.Ev.M
open Go Go.Ev
def m_arena_Word (x0 : Int) (x1 : Int) : Option (Int × Int) :=
  if (decide (x0 < (1 : Int))) = true then
  some ((0 : Int), (3 : Int))
  else
  if (decide (x0 > (511 : Int))) = true then
   some ((0 : Int), (3 : Int))
  else
   if (decide (x1 < (0 : Int))) = true then
    some ((0 : Int), (3 : Int))
   else
    if (decide (x1 ≥ (128 : Int))) = true then
     some ((0 : Int), (3 : Int))
    else
     Option.bind (m_arena_place x0 x1) fun r5 =>
     some (r5, (0 : Int))
def m_ticketlinelaw20_word (x0 : Int) (x1 : Int) (x2 : Int) (x3 : Int) : Option Bool :=
  Option.bind (m_arena_Word x0 x1) fun r1 =>
  if (r1.1 == x2) = true then
  some (r1.2 == x3)
  else
  some false
def m_ticketlinelaw20_memory (x0 : Int) : Option ((List Int) × Unit) :=
  Option.bind (m_mem_New x0) fun r1 =>
  (match r1.1 with
  | none =>
  if (r1.2 != (0 : Int)) = true then
   none
  else none
  | some y2 =>
  if (r1.2 != (0 : Int)) = true then
   none
  else
   some (y2.1, ()))
def m_arena_Arena_free (x0 : ((((List Int) × Unit) × Unit) × Unit)) (x1 : Int) : Option ((((List Int) × Unit) × Unit) × Unit) :=
  Option.bind (m_mem_Mem_Load (x0.1.1.1, ()) (1 : Int)) fun r2 =>
  Option.bind (m_arena_Arena_put (((r2.2.2.1, ()), ()), ()) x1 (List.set (List.replicate 128 (0 : Int)) 10 r2.1)) fun r4 =>
  Option.bind (m_mem_Mem_Store (r4.1.1.1, ()) (1 : Int) (IntKind.u64.wrap x1)) fun r6 =>
  some (((r6.2.1, ()), ()), ())
def m_arena_Arena_Release (x0 : ((((List Int) × Unit) × Unit) × Unit)) (x1 : Int) : Option (Int × ((((List Int) × Unit) × Unit) × Unit)) :=
  Option.bind (m_arena_Arena_busy (((x0.1.1.1, ()), ()), ()) x1 true) fun r1 =>
  if (r1.1 == (0 : Int)) = true then
  Option.bind (m_arena_Arena_free (((r1.2.1.1.1, ()), ()), ()) x1) fun r3 =>
  some (r1.1, (((r3.1.1.1, ()), ()), ()))
  else
  some (r1.1, (((r1.2.1.1.1, ()), ()), ()))
def m_arena_Arena_Write (x0 : ((((List Int) × Unit) × Unit) × Unit)) (x1 : Int) (x2 : (List Int)) : Option (Int × ((((List Int) × Unit) × Unit) × Unit)) :=
  Option.bind (m_arena_Arena_busy (((x0.1.1.1, ()), ()), ()) x1 false) fun r1 =>
  if (r1.1 != (0 : Int)) = true then
  some (r1.1, (((r1.2.1.1.1, ()), ()), ()))
  else
  Option.bind (m_slot_Valid x2) fun r3 =>
  if (!r3) = true then
   some ((12 : Int), (((r1.2.1.1.1, ()), ()), ()))
  else
   Option.bind (m_arena_Arena_put (((r1.2.1.1.1, ()), ()), ()) x1 x2) fun r4 =>
   some ((0 : Int), (((r4.1.1.1, ()), ()), ()))
def m_arena_Arena_list_l0_b (s0 : (Int → Int → (List Int) → (List Int) → Option ((List Int) × Bool × ((((List Int) × Unit) × Unit) × Unit)))) (u0_0 : Int) (u0_1 : Int) (u0_2 : (List Int)) (u0_3 : (List Int)) : Option ((List Int) × Bool × ((((List Int) × Unit) × Unit) × Unit)) :=
  if (u0_1 != (0 : Int)) = true then
  Option.bind (m_arena_Arena_pages (((u0_3, ()), ()), ())) fun r3 =>
  if (decide (u0_1 > (IntKind.u64.wrap r3.1))) = true then
   some (([] : List Int), false, (((r3.2.1.1.1, ()), ()), ()))
  else
   Option.bind (m_arena_Arena_pages (((r3.2.1.1.1, ()), ()), ())) fun r7 =>
   if ((u0_2.length : Int) == r7.1) = true then
    some (([] : List Int), false, (((r7.2.1.1.1, ()), ()), ()))
   else
    Option.bind (m_arena_Arena_kind (((r7.2.1.1.1, ()), ()), ()) (IntKind.i64.wrap u0_1)) fun r9 =>
    if (r9.1 != u0_0) = true then
     some (([] : List Int), false, (((r9.2.1.1.1, ()), ()), ()))
    else
     let v11 := ([(IntKind.i64.wrap u0_1)] : List Int)
     if fits (List.length u0_2 + List.length v11) 8 then
      Option.bind (m_arena_place (IntKind.i64.wrap u0_1) (10 : Int)) fun r13 =>
      Option.bind (m_mem_Mem_Load (r9.2.1.1.1, ()) r13) fun r14 =>
      s0 u0_0 r14.1 (u0_2 ++ v11) r14.2.2.1
     else none
  else
  some (u0_2, true, (((u0_3, ()), ()), ()))
def m_arena_Arena_list_l0 (N : Nat) : Nat → Int → Int → (List Int) → (List Int) → Option ((List Int) × Bool × ((((List Int) × Unit) × Unit) × Unit))
  | 0, _, _, _, _ => none
  | n + 1, u0_0, u0_1, u0_2, u0_3 => m_arena_Arena_list_l0_b (m_arena_Arena_list_l0 N n) u0_0 u0_1 u0_2 u0_3
def m_arena_Arena_list_a (l0 : (Int → Int → (List Int) → (List Int) → Option ((List Int) × Bool × ((((List Int) × Unit) × Unit) × Unit)))) (x0 : ((((List Int) × Unit) × Unit) × Unit)) (x1 : Int) (x2 : Int) : Option ((List Int) × Bool × ((((List Int) × Unit) × Unit) × Unit)) :=
  Option.bind (m_mem_Mem_Load (x0.1.1.1, ()) x1) fun r1 =>
  l0 x2 r1.1 ([] : List Int) r1.2.2.1
def m_arena_Arena_list (x0 : ((((List Int) × Unit) × Unit) × Unit)) (x1 : Int) (x2 : Int) : Option ((List Int) × Bool × ((((List Int) × Unit) × Unit) × Unit)) := m_arena_Arena_list_a (m_arena_Arena_list_l0 FUEL FUEL) x0 x1 x2
def m_arena_Arena_Counts_l0_b (s0 : (Int → Int → Int → Int → (List Int) → Option (Int × Int × Int × Int × ((((List Int) × Unit) × Unit) × Unit)))) (u0_0 : Int) (u0_1 : Int) (u0_2 : Int) (u0_3 : Int) (u0_4 : (List Int)) : Option (Int × Int × Int × Int × ((((List Int) × Unit) × Unit) × Unit)) :=
  Option.bind (m_arena_Arena_pages (((u0_4, ()), ()), ())) fun r1 =>
  if (decide (u0_3 ≤ r1.1)) = true then
  Option.bind (m_arena_Arena_kind (((r1.2.1.1.1, ()), ()), ()) u0_3) fun r3 =>
  if (r3.1 == (0 : Int)) = true then
   s0 (IntKind.i64.wrap (u0_0 + (1 : Int))) u0_1 u0_2 (IntKind.i64.wrap (u0_3 + (1 : Int))) r3.2.1.1.1
  else
   Option.bind (m_arena_Arena_kind (((r3.2.1.1.1, ()), ()), ()) u0_3) fun r7 =>
   if (r7.1 == (255 : Int)) = true then
    s0 u0_0 u0_1 (IntKind.i64.wrap (u0_2 + (1 : Int))) (IntKind.i64.wrap (u0_3 + (1 : Int))) r7.2.1.1.1
   else
    Option.bind (m_arena_Arena_used (((r7.2.1.1.1, ()), ()), ()) u0_3) fun r11 =>
    if r11.1 = true then
     s0 u0_0 (IntKind.i64.wrap (u0_1 + (1 : Int))) u0_2 (IntKind.i64.wrap (u0_3 + (1 : Int))) r11.2.1.1.1
    else
     s0 u0_0 u0_1 u0_2 (IntKind.i64.wrap (u0_3 + (1 : Int))) r11.2.1.1.1
  else
  Option.bind (m_arena_Arena_pages (((r1.2.1.1.1, ()), ()), ())) fun r15 =>
  some (r15.1, u0_0, u0_1, u0_2, (((r15.2.1.1.1, ()), ()), ()))
def m_arena_Arena_Counts_l0 (N : Nat) : Nat → Int → Int → Int → Int → (List Int) → Option (Int × Int × Int × Int × ((((List Int) × Unit) × Unit) × Unit))
  | 0, _, _, _, _, _ => none
  | n + 1, u0_0, u0_1, u0_2, u0_3, u0_4 => m_arena_Arena_Counts_l0_b (m_arena_Arena_Counts_l0 N n) u0_0 u0_1 u0_2 u0_3 u0_4
def m_arena_Arena_Counts_a (l0 : (Int → Int → Int → Int → (List Int) → Option (Int × Int × Int × Int × ((((List Int) × Unit) × Unit) × Unit)))) (x0 : ((((List Int) × Unit) × Unit) × Unit)) : Option (Int × Int × Int × Int × ((((List Int) × Unit) × Unit) × Unit)) :=
  l0 (0 : Int) (0 : Int) (0 : Int) (1 : Int) x0.1.1.1
def m_arena_Arena_Counts (x0 : ((((List Int) × Unit) × Unit) × Unit)) : Option (Int × Int × Int × Int × ((((List Int) × Unit) × Unit) × Unit)) := m_arena_Arena_Counts_a (m_arena_Arena_Counts_l0 FUEL FUEL) x0
def m_arena_Arena_sound_l0_b (s0 : (Int → Int → Int → Int → (List Int) → (List Int) → Option (Bool × ((((List Int) × Unit) × Unit) × Unit)))) (u0_0 : Int) (u0_1 : Int) (u0_2 : Int) (u0_3 : Int) (u0_4 : (List Int)) (u0_5 : (List Int)) : Option (Bool × ((((List Int) × Unit) × Unit) × Unit)) :=
  if (decide (u0_3 < u0_2)) = true then
  if (0 : Int) ≤ u0_3 then
   if u0_3 < (u0_4.length : Int) then
    Option.bind (m_arena_place (rd (.int .i64) u0_4 u0_3) (11 : Int)) fun r15 =>
    Option.bind (m_mem_Mem_Load (u0_5, ()) r15) fun r16 =>
    if (decide (r16.1 < (1 : Int))) = true then
     some (false, (((r16.2.2.1, ()), ()), ()))
    else
     if (decide (r16.1 ≥ u0_1)) = true then
      some (false, (((r16.2.2.1, ()), ()), ()))
     else
      s0 u0_0 r16.1 u0_2 (IntKind.i64.wrap (u0_3 + (1 : Int))) u0_4 r16.2.2.1
   else none
  else none
  else
  Option.bind (m_mem_Mem_Load (u0_5, ()) (3 : Int)) fun r20 =>
  if (r20.1 == (0 : Int)) = true then
   some (true, (((r20.2.2.1, ()), ()), ()))
  else
   if (decide (r20.1 ≤ (IntKind.u64.wrap u0_0))) = true then
    Option.bind (m_arena_Arena_used (((r20.2.2.1, ()), ()), ()) (IntKind.i64.wrap r20.1)) fun r25 =>
    some (r25.1, (((r25.2.1.1.1, ()), ()), ()))
   else
    some (false, (((r20.2.2.1, ()), ()), ()))
def m_arena_Arena_sound_l0 (N : Nat) : Nat → Int → Int → Int → Int → (List Int) → (List Int) → Option (Bool × ((((List Int) × Unit) × Unit) × Unit))
  | 0, _, _, _, _, _, _ => none
  | n + 1, u0_0, u0_1, u0_2, u0_3, u0_4, u0_5 => m_arena_Arena_sound_l0_b (m_arena_Arena_sound_l0 N n) u0_0 u0_1 u0_2 u0_3 u0_4 u0_5
def m_arena_Arena_sound_a (l0 : (Int → Int → Int → Int → (List Int) → (List Int) → Option (Bool × ((((List Int) × Unit) × Unit) × Unit)))) (x0 : ((((List Int) × Unit) × Unit) × Unit)) : Option (Bool × ((((List Int) × Unit) × Unit) × Unit)) :=
  Option.bind (m_arena_Arena_list (((x0.1.1.1, ()), ()), ()) (1 : Int) (0 : Int)) fun r1 =>
  Option.bind (m_arena_Arena_list (((r1.2.2.1.1.1, ()), ()), ()) (2 : Int) (255 : Int)) fun r2 =>
  Option.bind (m_arena_Arena_Counts (((r2.2.2.1.1.1, ()), ()), ())) fun r3 =>
  Option.bind (m_mem_Mem_Load (r3.2.2.2.2.1.1.1, ()) (4 : Int)) fun r4 =>
  if (!r1.2.1) = true then
  some (false, (((r4.2.2.1, ()), ()), ()))
  else
  if (!r2.2.1) = true then
   some (false, (((r4.2.2.1, ()), ()), ()))
  else
   if ((r1.1.length : Int) != r3.2.1) = true then
    some (false, (((r4.2.2.1, ()), ()), ()))
   else
    if ((r2.1.length : Int) != r3.2.2.2.1) = true then
     some (false, (((r4.2.2.1, ()), ()), ()))
    else
     if ((IntKind.i64.wrap ((IntKind.i64.wrap (r3.2.1 + r3.2.2.1)) + r3.2.2.2.1)) != r3.1) = true then
      some (false, (((r4.2.2.1, ()), ()), ()))
     else
      if (decide (r4.1 < (1 : Int))) = true then
       some (false, (((r4.2.2.1, ()), ()), ()))
      else
       if (decide (r4.1 > (1099511627776 : Int))) = true then
        some (false, (((r4.2.2.1, ()), ()), ()))
       else
        l0 r3.1 r4.1 (r2.1.length : Int) (0 : Int) r2.1 r4.2.2.1
def m_arena_Arena_sound (x0 : ((((List Int) × Unit) × Unit) × Unit)) : Option (Bool × ((((List Int) × Unit) × Unit) × Unit)) := m_arena_Arena_sound_a (m_arena_Arena_sound_l0 FUEL FUEL) x0
def m_arena_Open (x0 : ((List Int) × Unit)) : Option ((Option ((((List Int) × Unit) × Unit) × Unit)) × Int × ((List Int) × Unit)) :=
  if ((x0.1.length : Int) == (0 : Int)) = true then
  some (none, (1 : Int), (x0.1, ()))
  else
  if ((x0.1.length : Int) == (0 : Int)) = true then
   some (none, (1 : Int), (x0.1, ()))
  else
   Option.bind (m_mem_Mem_Load (x0.1, ()) (0 : Int)) fun r5 =>
   if (r5.2.1 != (0 : Int)) = true then
    some (none, (12 : Int), (r5.2.2.1, ()))
   else
    if (decide (r5.1 < (1 : Int))) = true then
     some (none, (12 : Int), (r5.2.2.1, ()))
    else
     if (decide (r5.1 > (511 : Int))) = true then
      some (none, (12 : Int), (r5.2.2.1, ()))
     else
      Option.bind (m_arena_place (IntKind.i64.wrap ((IntKind.i64.wrap r5.1) + (1 : Int))) (0 : Int)) fun r11 =>
      if ((r5.2.2.1.length : Int) == (0 : Int)) = true then
       if (decide (r11 > (0 : Int))) = true then
        some (none, (12 : Int), (r5.2.2.1, ()))
       else
        Option.bind (m_mem_Mem_Copy (r5.2.2.1, ())) fun r15 =>
        Option.bind (m_arena_Arena_sound (((r15.1.1, ()), ()), ())) fun r16 =>
        if (!r16.1) = true then
         some (none, (12 : Int), (r15.2.1, ()))
        else
         some ((some (((r16.2.1.1.1, ()), ()), ())), (0 : Int), (r15.2.1, ()))
      else
       if (decide (r11 > (r5.2.2.1.length : Int))) = true then
        some (none, (12 : Int), (r5.2.2.1, ()))
       else
        Option.bind (m_mem_Mem_Copy (r5.2.2.1, ())) fun r19 =>
        Option.bind (m_arena_Arena_sound (((r19.1.1, ()), ()), ())) fun r20 =>
        if (!r20.1) = true then
         some (none, (12 : Int), (r19.2.1, ()))
        else
         some ((some (((r20.2.1.1.1, ()), ()), ())), (0 : Int), (r19.2.1, ()))
def m_ticketlinelaw20_counts (x0 : ((((List Int) × Unit) × Unit) × Unit)) (x1 : Int) (x2 : Int) (x3 : Int) (x4 : Int) : Option (Bool × ((((List Int) × Unit) × Unit) × Unit)) :=
  Option.bind (m_arena_Arena_Counts (((x0.1.1.1, ()), ()), ())) fun r1 =>
  if (r1.1 == x1) = true then
  if (r1.2.1 == x2) = true then
   if (r1.2.2.1 == x3) = true then
    some ((r1.2.2.2.1 == x4), (((r1.2.2.2.2.1.1.1, ()), ()), ()))
   else
    some (false, (((r1.2.2.2.2.1.1.1, ()), ()), ()))
  else
   some (false, (((r1.2.2.2.2.1.1.1, ()), ()), ()))
  else
  some (false, (((r1.2.2.2.2.1.1.1, ()), ()), ()))
def m_ticketlinelaw20_fails (x0 : (Option ((((List Int) × Unit) × Unit) × Unit))) (x1 : Int) (x2 : Int) : Option (Bool × (Option ((((List Int) × Unit) × Unit) × Unit))) :=
  (match x0 with
  | none =>
  some ((x1 == x2), none)
  | some y1 =>
  some (false, (some (((y1.1.1.1, ()), ()), ()))))
def m_ticketlinelaw20_allocs (x0 : ((((List Int) × Unit) × Unit) × Unit)) (x1 : (List Int)) (x2 : Int) (x3 : Int) : Option (Bool × ((((List Int) × Unit) × Unit) × Unit)) :=
  Option.bind (m_arena_Arena_Alloc (((x0.1.1.1, ()), ()), ()) x1) fun r1 =>
  if (r1.1 == x2) = true then
  some ((r1.2.1 == x3), (((r1.2.2.1.1.1, ()), ()), ()))
  else
  some (false, (((r1.2.2.1.1.1, ()), ()), ()))
def m_arena_Arena_Defer (x0 : ((((List Int) × Unit) × Unit) × Unit)) (x1 : Int) : Option (Int × Int × ((((List Int) × Unit) × Unit) × Unit)) :=
  Option.bind (m_arena_Arena_busy (((x0.1.1.1, ()), ()), ()) x1 true) fun r1 =>
  if (r1.1 != (0 : Int)) = true then
  some ((0 : Int), r1.1, (((r1.2.1.1.1, ()), ()), ()))
  else
  Option.bind (m_mem_Mem_Load (r1.2.1.1.1, ()) (4 : Int)) fun r3 =>
  if (r3.1 == (1099511627776 : Int)) = true then
   some ((0 : Int), (17 : Int), (((r3.2.2.1, ()), ()), ()))
  else
   Option.bind (m_mem_Mem_Load (r3.2.2.1, ()) (2 : Int)) fun r6 =>
   Option.bind (m_arena_Arena_put (((r6.2.2.1, ()), ()), ()) x1 (List.set (List.set (List.set (List.replicate 128 (0 : Int)) 8 (255 : Int)) 10 r6.1) 11 r3.1)) fun r10 =>
   Option.bind (m_mem_Mem_Store (r10.1.1.1, ()) (2 : Int) (IntKind.u64.wrap x1)) fun r12 =>
   Option.bind (m_mem_Mem_Store (r12.2.1, ()) (4 : Int) (IntKind.u64.wrap (r3.1 + (1 : Int)))) fun r14 =>
   some ((IntKind.i64.wrap r3.1), (0 : Int), (((r14.2.1, ()), ()), ()))
def m_ticketlinelaw20_defers (x0 : ((((List Int) × Unit) × Unit) × Unit)) (x1 : Int) (x2 : Int) (x3 : Int) : Option (Bool × ((((List Int) × Unit) × Unit) × Unit)) :=
  Option.bind (m_arena_Arena_Defer (((x0.1.1.1, ()), ()), ()) x1) fun r1 =>
  if (r1.1 == x2) = true then
  some ((r1.2.1 == x3), (((r1.2.2.1.1.1, ()), ()), ()))
  else
  some (false, (((r1.2.2.1.1.1, ()), ()), ()))
def m_arena_Arena_Reclaim_l0_b (s0 : (Int → Int → Int → Int → Int → (List Int) → (List Int) → Option (Int × Int × ((((List Int) × Unit) × Unit) × Unit)))) (u0_0 : Int) (u0_1 : Int) (u0_2 : Int) (u0_3 : Int) (u0_4 : Int) (u0_5 : (List Int)) (u0_6 : (List Int)) : Option (Int × Int × ((((List Int) × Unit) × Unit) × Unit)) :=
  if (decide (u0_4 < u0_3)) = true then
  if (0 : Int) ≤ u0_4 then
   if u0_4 < (u0_5.length : Int) then
    let v6 := (rd (.int .i64) u0_5 u0_4)
    Option.bind (m_arena_place v6 (11 : Int)) fun r7 =>
    Option.bind (m_mem_Mem_Load (u0_6, ()) r7) fun r8 =>
    if (decide (r8.1 ≥ (IntKind.u64.wrap u0_0))) = true then
     Option.bind (m_arena_place v6 (10 : Int)) fun r11 =>
     s0 u0_0 r11 u0_2 u0_3 (IntKind.i64.wrap (u0_4 + (1 : Int))) u0_5 r8.2.2.1
    else
     Option.bind (m_arena_place v6 (10 : Int)) fun r13 =>
     Option.bind (m_mem_Mem_Load (r8.2.2.1, ()) r13) fun r14 =>
     Option.bind (m_mem_Mem_Store (r14.2.2.1, ()) u0_1 r14.1) fun r15 =>
     Option.bind (m_arena_Arena_free (((r15.2.1, ()), ()), ()) v6) fun r16 =>
     s0 u0_0 u0_1 (IntKind.i64.wrap (u0_2 + (1 : Int))) u0_3 (IntKind.i64.wrap (u0_4 + (1 : Int))) u0_5 r16.1.1.1
   else none
  else none
  else
  some (u0_2, (0 : Int), (((u0_6, ()), ()), ()))
def m_arena_Arena_Reclaim_l0 (N : Nat) : Nat → Int → Int → Int → Int → Int → (List Int) → (List Int) → Option (Int × Int × ((((List Int) × Unit) × Unit) × Unit))
  | 0, _, _, _, _, _, _, _ => none
  | n + 1, u0_0, u0_1, u0_2, u0_3, u0_4, u0_5, u0_6 => m_arena_Arena_Reclaim_l0_b (m_arena_Arena_Reclaim_l0 N n) u0_0 u0_1 u0_2 u0_3 u0_4 u0_5 u0_6
def m_arena_Arena_Reclaim_a (l0 : (Int → Int → Int → Int → Int → (List Int) → (List Int) → Option (Int × Int × ((((List Int) × Unit) × Unit) × Unit)))) (x0 : ((((List Int) × Unit) × Unit) × Unit)) (x1 : Int) : Option (Int × Int × ((((List Int) × Unit) × Unit) × Unit)) :=
  if (decide (x1 < (0 : Int))) = true then
  some ((0 : Int), (2 : Int), (((x0.1.1.1, ()), ()), ()))
  else
  if (decide (x1 > (1099511627776 : Int))) = true then
   some ((0 : Int), (2 : Int), (((x0.1.1.1, ()), ()), ()))
  else
   Option.bind (m_arena_Arena_list (((x0.1.1.1, ()), ()), ()) (2 : Int) (255 : Int)) fun r3 =>
   l0 x1 (2 : Int) (0 : Int) (r3.1.length : Int) (0 : Int) r3.1 r3.2.2.1.1.1
def m_arena_Arena_Reclaim (x0 : ((((List Int) × Unit) × Unit) × Unit)) (x1 : Int) : Option (Int × Int × ((((List Int) × Unit) × Unit) × Unit)) := m_arena_Arena_Reclaim_a (m_arena_Arena_Reclaim_l0 FUEL FUEL) x0 x1
def m_ticketlinelaw20_reclaims (x0 : ((((List Int) × Unit) × Unit) × Unit)) (x1 : Int) (x2 : Int) (x3 : Int) : Option (Bool × ((((List Int) × Unit) × Unit) × Unit)) :=
  Option.bind (m_arena_Arena_Reclaim (((x0.1.1.1, ()), ()), ()) x1) fun r1 =>
  if (r1.1 == x2) = true then
  some ((r1.2.1 == x3), (((r1.2.2.1.1.1, ()), ()), ()))
  else
  some (false, (((r1.2.2.1.1.1, ()), ()), ()))
def m_arena_Arena_Read_l0_b (s0 : (Int → Int → (List Int) → (List Int) → (List Int) → Option ((List Int) × Int × ((((List Int) × Unit) × Unit) × Unit)))) (u0_0 : Int) (u0_1 : Int) (u0_2 : (List Int)) (u0_3 : (List Int)) (u0_4 : (List Int)) : Option ((List Int) × Int × ((((List Int) × Unit) × Unit) × Unit)) :=
  if (decide (u0_1 < (128 : Int))) = true then
  Option.bind (m_arena_place u0_0 u0_1) fun r7 =>
  Option.bind (m_mem_Mem_Load (u0_4, ()) r7) fun r8 =>
  if (0 : Int) ≤ u0_1 then
   if u0_1 < (128 : Int) then
    s0 u0_0 (IntKind.i64.wrap (u0_1 + (1 : Int))) u0_2 (List.set u0_3 u0_1.toNat r8.1) r8.2.2.1
   else none
  else none
  else
  some (u0_3, (0 : Int), (((u0_4, ()), ()), ()))
def m_arena_Arena_Read_l0 (N : Nat) : Nat → Int → Int → (List Int) → (List Int) → (List Int) → Option ((List Int) × Int × ((((List Int) × Unit) × Unit) × Unit))
  | 0, _, _, _, _, _ => none
  | n + 1, u0_0, u0_1, u0_2, u0_3, u0_4 => m_arena_Arena_Read_l0_b (m_arena_Arena_Read_l0 N n) u0_0 u0_1 u0_2 u0_3 u0_4
def m_arena_Arena_Read_a (l0 : (Int → Int → (List Int) → (List Int) → (List Int) → Option ((List Int) × Int × ((((List Int) × Unit) × Unit) × Unit)))) (x0 : ((((List Int) × Unit) × Unit) × Unit)) (x1 : Int) : Option ((List Int) × Int × ((((List Int) × Unit) × Unit) × Unit)) :=
  let v2 := (List.replicate 128 (0 : Int))
  if (decide (x1 < (1 : Int))) = true then
  some (v2, (3 : Int), (((x0.1.1.1, ()), ()), ()))
  else
  Option.bind (m_arena_Arena_pages (((x0.1.1.1, ()), ()), ())) fun r4 =>
  if (decide (x1 > r4.1)) = true then
   some (v2, (3 : Int), (((r4.2.1.1.1, ()), ()), ()))
  else
   l0 x1 (0 : Int) (List.replicate 128 (0 : Int)) v2 r4.2.1.1.1
def m_arena_Arena_Read (x0 : ((((List Int) × Unit) × Unit) × Unit)) (x1 : Int) : Option ((List Int) × Int × ((((List Int) × Unit) × Unit) × Unit)) := m_arena_Arena_Read_a (m_arena_Arena_Read_l0 FUEL FUEL) x0 x1
def m_ticketlinelaw20_reads (x0 : ((((List Int) × Unit) × Unit) × Unit)) (x1 : Int) (x2 : (List Int)) (x3 : Int) : Option (Bool × ((((List Int) × Unit) × Unit) × Unit)) :=
  Option.bind (m_arena_Arena_Read (((x0.1.1.1, ()), ()), ()) x1) fun r1 =>
  if (Ty.beq (.arr 128 (.int .u64)) r1.1 x2) = true then
  some ((r1.2.1 == x3), (((r1.2.2.1.1.1, ()), ()), ()))
  else
  some (false, (((r1.2.2.1.1.1, ()), ()), ()))
def m_ticketlinelaw20_known : Option Bool :=
  some true
end Go.Ev.M
