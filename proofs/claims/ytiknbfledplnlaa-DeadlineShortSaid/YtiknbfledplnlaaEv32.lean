/- The evaluator with stops: at a cut or a loop the rest may stand for itself. -/
import Derived.Test.YtiknbfledplnlaaEvC
set_option linter.unusedVariables false
namespace Go.Ev
open Go

/-- what stands at a cut (by its first region), and at a loop (by its first region) -/
structure Stops (R : Type) where
  cut : Nat → Option (St → (Ex → St → Option R) → Option R)
  loop : Nat → Option ((Ex → St → Option R) → Nat → St → Option R)

def evalX {R : Type} (C : Cx) (ann : Nat → Ann) (X : Stops R) : Code → St → (Ex → St → Option R) → Option R
  | .skip, s, k => k .normal s
  | .label _, s, k => k .normal s
  | .region _ ops draw, s, k =>
    if draw then (bif edgesBack ops.toList 0 then opsF C ops.toList (masks ops.toList []) ops.toList 0 s [] fun s' => k .normal s' else none)
    else opsK C ops.toList ops.toList s fun s' => k .normal s'
  | .seq a b, s, k => evalX C ann X a s fun e s' => match e with
    | .normal => (match cutS (ann (Nat.add 1000000 (firstRegion b))) s' with
      | some s'' => (match X.cut (firstRegion b) with | some F => F s'' k | none => evalX C ann X b s'' k)
      | none => none)
    | .ret => k .ret s'
    | .exit i => k (.exit i) s'
  | .cond c a b, s, k => match c with
    | .tmp t => (match s.t t with
      | .bool x => if x then evalX C ann X a (s.setT t (.bool true)) k else evalX C ann X b (s.setT t (.bool false)) k
      | _ => none)
    | .const (.bool x) => if x then evalX C ann X a s k else evalX C ann X b s k
    | _ => none
  | .block id a, s, k => evalX C ann X a s fun e s' => match e with
    | .exit j => (bif Nat.beq j id then k .normal s' else k (.exit j) s')
    | .normal => k .normal s'
    | .ret => k .ret s'
  | .scope a, s, k => evalX C ann X a s k
  | .loop a, s, k => match nrm (ann (firstRegion a)) s with
    | some s' => (match X.loop (firstRegion a) with
      | some F => F k (bif (ann (firstRegion a)).cut then 8 else C.N) s'
      | none => loopK (nrm (ann (firstRegion a))) (evalX C ann X a) k (bif (ann (firstRegion a)).cut then 8 else C.N) s')
    | none => none
  | .exit id, s, k => k (.exit id) s
  | .ret, s, k => k .ret s
  | _, _, _ => none

def kAtX {R : Type} (C : Cx) (ann : Nat → Ann) (X : Stops R) : List Nat → List Nat → Code → (Ex → St → Option R) → Ex → St → Option R
  | [], _, _, k => k
  | i :: p, ns, .seq a b, k => if i = 0 then kAtX C ann X p ns a (fun e s' => match e with
      | .normal => (match cutS (ann (Nat.add 1000000 (firstRegion b))) s' with
        | some s'' => (match X.cut (firstRegion b) with | some F => F s'' k | none => evalX C ann X b s'' k)
        | none => none)
      | .ret => k .ret s'
      | .exit i => k (.exit i) s') else kAtX C ann X p ns b k
  | i :: p, ns, .cond _ a b, k => if i = 0 then kAtX C ann X p ns a k else kAtX C ann X p ns b k
  | _ :: p, ns, .block id a, k => kAtX C ann X p ns a fun e s' => match e with
      | .exit j => (bif Nat.beq j id then k .normal s' else k (.exit j) s')
      | .normal => k .normal s'
      | .ret => k .ret s'
  | _ :: p, ns, .scope a, k => kAtX C ann X p ns a k
  | _ :: p, ns, .loop a, k => match ns with
    | n :: ns => kAtX C ann X p ns a fun e s' => match e with
      | .normal => (match nrm (ann (firstRegion a)) s' with
        | some s'' => (match X.loop (firstRegion a) with
          | some F => F k n s''
          | none => loopK (nrm (ann (firstRegion a))) (evalX C ann X a) k n s'')
        | none => none)
      | .ret => k .ret s'
      | .exit i => k (.exit i) s'
    | [] => k
  | _, _, _, k => k

/-- the stops that say what is there -/
def Stops.right {R : Type} (C : Cx) (ann : Nat → Ann) (X : Stops R) : Code → Prop
  | .seq a b => X.right C ann a ∧ X.right C ann b ∧ ∀ F, X.cut (firstRegion b) = some F → F = evalK C ann b
  | .cond _ a b => X.right C ann a ∧ X.right C ann b
  | .block _ a => X.right C ann a
  | .scope a => X.right C ann a
  | .loop a => X.right C ann a ∧ ∀ F, X.loop (firstRegion a) = some F → F = fun k n s => loopK (nrm (ann (firstRegion a))) (evalK C ann a) k n s
  | _ => True

theorem evalX_eq {R : Type} {C : Cx} {ann : Nat → Ann} {X : Stops R} : ∀ {c : Code}, X.right C ann c → evalX C ann X c = evalK C ann c := by
  intro c
  induction c with
  | seq a b iha ihb =>
    intro h
    obtain ⟨ha, hb, hF⟩ := h
    funext s k
    simp only [evalX, evalK, iha ha, ihb hb]
    congr 1
    funext e s'
    cases e with
    | normal =>
      dsimp only
      cases cutS (ann (Nat.add 1000000 (firstRegion b))) s' with
      | none => rfl
      | some s'' =>
        dsimp only
        cases e : X.cut (firstRegion b) with
        | none => rfl
        | some F => dsimp only; rw [hF F e]
    | ret => rfl
    | exit i => rfl
  | cond c a b iha ihb =>
    intro h
    funext s k
    simp only [evalX, evalK, iha h.1, ihb h.2]
    rfl
  | block i a iha =>
    intro h
    funext s k
    simp only [evalX, evalK, iha h]
    rfl
  | scope a iha =>
    intro h
    funext s k
    simp only [evalX, evalK, iha h]
  | loop a iha =>
    intro h
    funext s k
    simp only [evalX, evalK, iha h.1]
    cases nrm (ann (firstRegion a)) s with
    | none => rfl
    | some s' =>
      dsimp only
      cases e : X.loop (firstRegion a) with
      | none => rfl
      | some F => dsimp only; rw [h.2 F e]
  | _ => intro h; funext s k; first | rfl | simp only [evalX, evalK]

theorem kAtX_eq {R : Type} {C : Cx} {ann : Nat → Ann} {X : Stops R} : ∀ {c : Code}, X.right C ann c → ∀ (p ns : List Nat) (k : Ex → St → Option R), kAtX C ann X p ns c k = kAt C ann p ns c k := by
  intro c
  induction c with
  | seq a b iha ihb =>
    intro h p ns k
    obtain ⟨ha, hb, hF⟩ := h
    cases p with
    | nil => rfl
    | cons i p =>
      simp only [kAtX, kAt, iha ha, ihb hb, evalX_eq hb]
      by_cases ci : i = 0
      · rw [if_pos ci, if_pos ci]
        congr 1
        funext e s'
        cases e with
        | normal =>
          dsimp only
          cases cutS (ann (Nat.add 1000000 (firstRegion b))) s' with
          | none => rfl
          | some s'' =>
            dsimp only
            cases e : X.cut (firstRegion b) with
            | none => rfl
            | some F => dsimp only; rw [hF F e]
        | ret => rfl
        | exit i => rfl
      · rw [if_neg ci, if_neg ci]
  | cond c a b iha ihb =>
    intro h p ns k
    cases p with
    | nil => rfl
    | cons i p => simp only [kAtX, kAt, iha h.1, ihb h.2]
  | block i a iha =>
    intro h p ns k
    cases p with
    | nil => rfl
    | cons i p => simp only [kAtX, kAt, iha h]; rfl
  | scope a iha =>
    intro h p ns k
    cases p with
    | nil => rfl
    | cons i p => simp only [kAtX, kAt, iha h]
  | loop a iha =>
    intro h p ns k
    cases p with
    | nil => rfl
    | cons i p =>
      cases ns with
      | nil => rfl
      | cons n ns =>
        simp only [kAtX, kAt, iha h.1, evalX_eq h.1]
        congr 1
        funext e s'
        cases e with
        | normal =>
          dsimp only
          cases nrm (ann (firstRegion a)) s' with
          | none => rfl
          | some s'' =>
            dsimp only
            cases e : X.loop (firstRegion a) with
            | none => rfl
            | some F => dsimp only; rw [h.2 F e]
        | ret => rfl
        | exit i => rfl
  | _ => intro h p ns k; cases p <;> rfl

theorem cAt_skip : ∀ p, cAt p .skip = .skip := by intro p; cases p <;> rfl
theorem cAt_append : ∀ (q r : List Nat) (c : Code), cAt (q ++ r) c = cAt r (cAt q c) := by
  intro q
  induction q with
  | nil => intro r c; cases c <;> rfl
  | cons i q ih =>
    intro r c
    cases c with
    | seq a b =>
      show (if i = 0 then cAt (q ++ r) a else cAt (q ++ r) b) = cAt r (if i = 0 then cAt q a else cAt q b)
      split <;> exact ih _ _
    | cond o a b =>
      show (if i = 0 then cAt (q ++ r) a else cAt (q ++ r) b) = cAt r (if i = 0 then cAt q a else cAt q b)
      split <;> exact ih _ _
    | block j a => exact ih r a
    | scope a => exact ih r a
    | loop a => exact ih r a
    | _ => exact (cAt_skip r).symm
def lookF {α : Type} : List (Nat × α) → Nat → Option α
  | [], _ => none
  | (i, a) :: l, r => bif Nat.beq i r then some a else lookF l r
def eqP : List Nat → List Nat → Bool
  | [], [] => true
  | a :: l, b :: m => Nat.beq a b && eqP l m
  | _, _ => false
theorem eqP_eq : ∀ {l m : List Nat}, eqP l m = true → l = m := by
  intro l
  induction l with
  | nil => intro m h; cases m with | nil => rfl | cons b m => cases h
  | cons a l ih =>
    intro m h
    cases m with
    | nil => cases h
    | cons b m =>
      simp only [eqP, Bool.and_eq_true] at h
      rw [Nat.eq_of_beq_eq_true h.1, ih h.2]
theorem cAt_nil (c : Code) : cAt [] c = c := by cases c <;> rfl
/-- each place of a list is where its number says -/
def okX (L : List (Nat × List Nat)) (q : List Nat) : Code → Bool
  | .seq a b => okX L (q ++ [0]) a && (okX L (q ++ [1]) b && (match lookF L (firstRegion b) with | none => true | some p => eqP p (q ++ [1])))
  | .cond _ a b => okX L (q ++ [0]) a && okX L (q ++ [1]) b
  | .block _ a => okX L (q ++ [0]) a
  | .scope a => okX L (q ++ [0]) a
  | .loop a => okX L (q ++ [0]) a
  | _ => true
def stops {R : Type} (l : List (Nat × (St → (Ex → St → Option R) → Option R))) : Stops R := ⟨lookF l, fun _ => none⟩
def atL {R : Type} (C : Cx) (ann : Nat → Ann) (c : Code) : List (Nat × List Nat) → List (Nat × (St → (Ex → St → Option R) → Option R))
  | [] => []
  | (i, p) :: l => (i, evalK C ann (cAt p c)) :: atL C ann c l
theorem lookF_atL {R : Type} {C : Cx} {ann : Nat → Ann} {c : Code} : ∀ {L : List (Nat × List Nat)} {r : Nat} {F : St → (Ex → St → Option R) → Option R}, lookF (atL C ann c L) r = some F → ∃ p, lookF L r = some p ∧ F = evalK C ann (cAt p c) := by
  intro L
  induction L with
  | nil => intro r F h; cases h
  | cons x l ih =>
    obtain ⟨i, p⟩ := x
    intro r F h
    unfold atL at h
    unfold lookF at h ⊢
    cases e : Nat.beq i r with
    | true => rw [e] at h; cases h; exact ⟨p, rfl, rfl⟩
    | false => rw [e] at h; exact ih h
theorem stops_right {R : Type} {C : Cx} {ann : Nat → Ann} {c : Code} {L : List (Nat × List Nat)} : ∀ {d : Code} {q : List Nat}, cAt q c = d → okX L q d = true → (stops (R := R) (atL C ann c L)).right C ann d := by
  intro d
  induction d with
  | seq a b iha ihb =>
    intro q hq h
    simp only [okX, Bool.and_eq_true] at h
    have ea : cAt (q ++ [0]) c = a := by rw [cAt_append, hq]; exact cAt_nil a
    have eb : cAt (q ++ [1]) c = b := by rw [cAt_append, hq]; exact cAt_nil b
    refine ⟨iha ea h.1, ihb eb h.2.1, fun F hF => ?_⟩
    obtain ⟨p, hp, rfl⟩ := lookF_atL hF
    have := h.2.2
    rw [hp] at this
    rw [eqP_eq this, eb]
  | cond o a b iha ihb =>
    intro q hq h
    simp only [okX, Bool.and_eq_true] at h
    exact ⟨iha (by rw [cAt_append, hq]; exact cAt_nil a) h.1, ihb (by rw [cAt_append, hq]; exact cAt_nil b) h.2⟩
  | block i a iha => intro q hq h; exact iha (q := q ++ [0]) (by rw [cAt_append, hq]; exact cAt_nil a) h
  | scope a iha => intro q hq h; exact iha (q := q ++ [0]) (by rw [cAt_append, hq]; exact cAt_nil a) h
  | loop a iha => intro q hq h; exact ⟨iha (q := q ++ [0]) (by rw [cAt_append, hq]; exact cAt_nil a) h, fun F hF => by cases hF⟩
  | _ => intro q hq h; trivial
theorem right_at {R : Type} {C : Cx} {ann : Nat → Ann} {X : Stops R} : ∀ (p : List Nat) {c : Code}, X.right C ann c → X.right C ann (cAt p c) := by
  intro p
  induction p with
  | nil => intro c h; rw [cAt_nil]; exact h
  | cons i p ih =>
    intro c h
    cases c with
    | seq a b => show X.right C ann (if i = 0 then cAt p a else cAt p b); split; exact ih h.1; exact ih h.2.1
    | cond o a b => show X.right C ann (if i = 0 then cAt p a else cAt p b); split; exact ih h.1; exact ih h.2
    | block j a => exact ih (c := a) h
    | scope a => exact ih (c := a) h
    | loop a => exact ih h.1
    | _ => trivial
end Go.Ev
