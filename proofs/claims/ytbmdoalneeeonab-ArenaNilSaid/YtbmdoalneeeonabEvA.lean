/- An evaluator for the functions of a loaded program, on values without addresses; plain definitions only. -/
import Derived.WalkKit
import Derived.Orders
import Derived.KernelRfl
set_option linter.unusedVariables false
namespace Go.Ev
open Go

inductive Ty where
  | int (k : IntKind) | bool | str | nl | pair (a b : Ty) | arr (n : Nat) (t : Ty) | sl (t : Ty)
  deriving DecidableEq

@[reducible] def Ty.den : Ty → Type
  | .int _ => Int
  | .bool => Bool
  | .str => ByteArray
  | .nl => Unit
  | .pair a b => a.den × b.den
  | .arr _ t => List t.den
  | .sl t => List t.den

def Ty.dflt : (t : Ty) → t.den
  | .int _ => (0 : Int)
  | .bool => false
  | .str => (⟨#[]⟩ : ByteArray)
  | .nl => ()
  | .pair a b => (a.dflt, b.dflt)
  | .arr n t => List.replicate n t.dflt
  | .sl _ => []

def Ty.size : Ty → Nat
  | .nl => 0
  | .pair a b => a.size + b.size
  | .arr n t => n * t.size
  | .int _ => 1
  | .bool => 1
  | .str => 1
  | .sl _ => 1

/-- no slice inside -/
def Ty.noSl : Ty → Bool
  | .pair a b => a.noSl && b.noSl
  | .arr _ t => t.noSl
  | .sl _ => false
  | _ => true

def Ty.beq : (t : Ty) → t.den → t.den → Bool
  | .int _, x, y => (x : Int) == y
  | .bool, x, y => (x : Bool) == y
  | .str, x, y => (x : ByteArray).toList == (y : ByteArray).toList
  | .nl, _, _ => true
  | .pair a b, x, y => Ty.beq a x.1 y.1 && Ty.beq b x.2 y.2
  | .arr n t, xs, ys => (List.range n).all fun i => Ty.beq t (xs.getD i t.dflt) (ys.getD i t.dflt)
  | .sl _, _, _ => false
def rd (t : Ty) (xs : List t.den) (i : Int) : t.den := xs.getD i.toNat t.dflt
def bt (s : ByteArray) (i : Int) : Int := ((s.data.toList.getD i.toNat 0).toNat : Int)
def win {α : Type} (xs : List α) (off len : Int) : List α := (xs.drop off.toNat).take len.toNat
def splice {α : Type} (xs : List α) (off : Int) (ys : List α) : List α := xs.take off.toNat ++ ys ++ xs.drop (off.toNat + ys.length)
def strOf (xs : List Int) : ByteArray := ⟨(xs.map fun n => UInt8.ofNat n.toNat).toArray⟩
def bytesOf (s : ByteArray) : List Int := s.data.toList.map fun b => (b.toNat : Int)
def band (k : IntKind) (x y : Int) : Int := k.wrap ((BitVec.ofInt k.bits x &&& BitVec.ofInt k.bits y).toNat)
def bor (k : IntKind) (x y : Int) : Int := k.wrap ((BitVec.ofInt k.bits x ||| BitVec.ofInt k.bits y).toNat)
def bxor (k : IntKind) (x y : Int) : Int := k.wrap ((BitVec.ofInt k.bits x ^^^ BitVec.ofInt k.bits y).toNat)
def bandn (k : IntKind) (x y : Int) : Int := k.wrap ((BitVec.ofInt k.bits x &&& ~~~ (BitVec.ofInt k.bits y)).toNat)
def shlI (k : IntKind) (x y : Int) : Int := k.wrap (x * 2 ^ (min y.toNat k.bits))
def shrI (k : IntKind) (x y : Int) : Int := x.fdiv (2 ^ (min y.toNat k.bits))
def mx (x y : Int) : Int := if y > x then y else x
def mn (x y : Int) : Int := if y < x then y else x

inductive PS where
  | fld (i : Nat) | idx (i : Int)

inductive AV where
  | top
  | int (k : IntKind) (n : Int)
  | bool (b : Bool)
  | str (s : ByteArray)
  | ref (o : Nat) (p : List PS)
  | nilp
  | pref (t : Ty) (x : t.den)
  | view (o : Nat) (p : List PS) (off len : Int)
  | full (o : Nat)
  | lst (t : Ty) (xs : List t.den)
  | nils
  | arr (t : Ty) (n : Nat) (xs : List t.den)
  | bk (t : Ty) (xs : List t.den)
  | nl
  | cons (h t : AV)
  | tup (c : AV)
  | iface (T : Nat) (v : AV)
  | nili
  | fn (f : Nat)
  | pv (o n : Nat)

/-- the skeleton of a content -/
inductive Sh where
  | leaf | nl | cons (a b : Sh) | arr (t : Ty) (n : Nat) | bk (t : Ty) (n : Nat) | bad
  deriving DecidableEq

def shT : Ty → Sh
  | .nl => .nl
  | .pair a b => .cons (shT a) (shT b)
  | .arr n t => .arr t n
  | .int _ => .leaf
  | .bool => .leaf
  | .str => .leaf
  | .sl _ => .leaf

def AV.sh : AV → Sh
  | .nl => .nl
  | .cons h t => .cons h.sh t.sh
  | .arr t n _ => .arr t n
  | .bk t xs => .bk t xs.length
  | .top => .bad
  | .tup _ => .bad
  | _ => .leaf

def Sh.size : Sh → Nat
  | .leaf => 1
  | .nl => 0
  | .cons a b => a.size + b.size
  | .arr t n => n * t.size
  | .bk t n => n * t.size
  | .bad => 0

def AV.agg : AV → Bool
  | .nl => true
  | .cons _ _ => true
  | .arr _ _ _ => true
  | _ => false

def toAV : (t : Ty) → t.den → AV
  | .int k, x => .int k x
  | .bool, x => .bool x
  | .str, x => .str x
  | .nl, _ => .nl
  | .pair a b, x => .cons (toAV a x.1) (toAV b x.2)
  | .arr n t, xs => .arr t n xs
  | .sl t, xs => .lst t xs

def castL {t u : Ty} (xs : List t.den) : Option (List u.den) :=
  if h : t = u then some (h ▸ xs) else none

def castV {t : Ty} (u : Ty) (x : t.den) : Option u.den :=
  if h : t = u then some (h ▸ x) else none

def ofAV : (t : Ty) → AV → Option t.den
  | .int k, .int k' n => if k' = k then some n else none
  | .bool, .bool b => some b
  | .str, .str s => some s
  | .nl, .nl => some ()
  | .pair a b, .cons h t => match ofAV a h with
    | some x => match ofAV b t with | some y => some (x, y) | none => none
    | none => none
  | .arr n t, .arr t' n' xs => if n' = n then castL xs else none
  | .sl t, .lst t' xs => castL xs
  | .sl _, .nils => some []
  | _, _ => none

def AV.nth : AV → Nat → Option AV
  | .cons h _, 0 => some h
  | .cons _ t, n + 1 => t.nth n
  | _, _ => none

def AV.setNth : AV → Nat → AV → Option AV
  | .cons _ t, 0, v => some (.cons v t)
  | .cons h t, n + 1, v => match t.setNth n v with | some t' => some (.cons h t') | none => none
  | _, _, _ => none

/-- where a field of a skeleton begins, and its skeleton -/
def Sh.nth : Sh → Nat → Option (Nat × Sh)
  | .cons h _, 0 => some (0, h)
  | .cons h t, n + 1 => match t.nth n with | some (k, s) => some (h.size + k, s) | none => none
  | _, _ => none

/-- where the part at a path begins, and its skeleton -/
def Sh.off : List PS → Sh → Option (Nat × Sh)
  | [], s => some (0, s)
  | .fld i :: p, s => match s.nth i with
    | some (k, d) => match Sh.off p d with | some (j, e) => some (k + j, e) | none => none
    | none => none
  | .idx i :: p, .arr t n => if 0 ≤ i ∧ i < n then (match Sh.off p (shT t) with | some (j, e) => some (i.toNat * t.size + j, e) | none => none) else none
  | .idx i :: p, .bk t n => if 0 ≤ i ∧ i < n then (match Sh.off p (shT t) with | some (j, e) => some (i.toNat * t.size + j, e) | none => none) else none
  | _, _ => none

/-- the part of a content at a path -/
def AV.at : List PS → AV → Option AV
  | [], c => some c
  | .fld i :: p, c => match c.nth i with | some d => AV.at p d | none => none
  | .idx i :: p, .arr t _ xs => AV.at p (toAV t (rd t xs i))
  | .idx i :: p, .bk t xs => AV.at p (toAV t (rd t xs i))
  | _, _ => none

def AV.put : List PS → AV → AV → Option AV
  | [], c, v => if v.sh = c.sh then some v else none
  | .fld i :: p, c, v => match c.nth i with
    | some d => match AV.put p d v with | some d' => c.setNth i d' | none => none
    | none => none
  | .idx i :: p, .arr t n xs, v => match AV.put p (toAV t (rd t xs i)) v with
    | some d => match ofAV t d with | some x => some (.arr t n (xs.set i.toNat x)) | none => none
    | none => none
  | .idx i :: p, .bk t xs, v => match AV.put p (toAV t (rd t xs i)) v with
    | some d => match ofAV t d with | some x => some (.bk t (xs.set i.toNat x)) | none => none
    | none => none
  | _, _, _ => none

structure St where
  n : Nat
  tm : List (Nat × AV)
  ob : List (Nat × AV)

def look (l : List (Nat × AV)) (i : Nat) : AV := match l with
  | [] => .top
  | (j, v) :: r => bif Nat.beq j i then v else look r i
def look? (l : List (Nat × AV)) (i : Nat) : Option AV := match l with
  | [] => none
  | (j, v) :: r => bif Nat.beq j i then some v else look? r i
def St.t (s : St) (i : Nat) : AV := look s.tm i
def St.o (s : St) (i : Nat) : Option AV := look? s.ob i
def St.setT (s : St) (i : Nat) (v : AV) : St := { s with tm := (i, v) :: s.tm }
def St.setO (s : St) (i : Nat) (v : AV) : St := { s with ob := (i, v) :: s.ob }

inductive Pg (α : Type) : Type 1 where
  | ret (v : α)
  | fail
  | rdT (t : Nat) (k : AV → Pg α)
  | rdO (o : Nat) (k : AV → Pg α)
  | wrO (o : Nat) (c : AV) (k : Pg α)
  | new (o : Nat) (c : AV) (k : Pg α)
  | br (t : Nat) (p q : Pg α)
  | test (c : Prop) (d : Decidable c) (k : Pg α)
  | bind (T : Type) (m : Option T) (k : T → Pg α)
  | opt (T : Type) (m : Option T) (p : Pg α) (k : T → Pg α)
  | sel (b : Bool) (p q : Pg α)

def AV.dead : AV → Bool
  | .top => true
  | .tup _ => true
  | _ => false
/-- 'br t': a test of the slot t, which holds a bool -/
def Pg.runK {α R : Type} (s : St) : Pg α → (α → St → Option R) → Option R
  | .ret v, k => k v s
  | .fail, _ => none
  | .rdT t f, k => (f (s.t t)).runK s k
  | .rdO o f, k => match s.o o with | some c => bif c.dead then none else (f c).runK s k | none => none
  | .wrO o c p, k => match s.o o with | some _ => p.runK (s.setO o c) k | none => none
  | .new o c p, k => match s.o o with | none => p.runK (s.setO o c) k | some _ => none
  | .br t p q, k => match s.t t with
    | .bool b => if b then p.runK (s.setT t (.bool true)) k else q.runK (s.setT t (.bool false)) k
    | _ => none
  | .test c d p, k => @ite _ c d (p.runK s k) none
  | .bind _ m f, k => m.bind fun r => (f r).runK s k
  | .opt _ m p f, k => match m with | none => p.runK s k | some r => (f r).runK s k
  | .sel b p q, k => if b then p.runK s k else q.runK s k

inductive TK where
  | int (k : IntKind) | bool | str | ptr (e : Nat) | sl (e : Nat) | arr (n : Nat) (e : Nat) | st (fs : List (Nat × Nat)) | iface | other
structure TI where
  k : TK
  size : Nat
  bytes : Nat
  zero : AV
  ty : Option Ty
  eq : Bool

inductive SP where
  | pure (t : Ty) | own (t : Ty) | rptr (t : Ty) | ptr (s : SP) | nptr (s : SP) | nl | cons (a b : SP)

@[reducible] def SP.den : SP → Type
  | .pure t => t.den
  | .own t => List t.den
  | .rptr t => t.den
  | .ptr s => s.den
  | .nptr s => Option s.den
  | .nl => Unit
  | .cons a b => a.den × b.den
/-- what is behind the pointers after the call -/
@[reducible] def SP.odn : SP → Type
  | .pure _ => Unit
  | .own _ => Unit
  | .rptr _ => Unit
  | .ptr s => s.den
  | .nptr s => Option s.den
  | .nl => Unit
  | .cons a b => a.odn × b.odn

structure Sig : Type 1 where
  ps : SP
  rs : SP
  T : Type
  m : ps.den → Option T
  res : ps.den → T → rs.den
  out : ps.den → T → ps.odn

structure Cx where
  D : Nat → TI
  G : Nat → Option Sig
  /-- functions whose bodies are evaluated where they are called -/
  I : Nat → Option (List AV → Nat → Pg AV)
  /-- methods by their types' numbers and their names -/
  M : Nat → String → Option Nat
  /-- the names of new objects begin here -/
  b : Nat
  /-- the rounds that a loop may take -/
  N : Nat

def ofP {α β : Type} (m : Option β) (k : β → Pg α) : Pg α := match m with | some x => k x | none => .fail

/-- a plain value out of a value: 'k' gets it, and which objects were looked into -/
def exP {α : Type} : (t : Ty) → AV → (t.den → List Nat → Pg α) → Pg α
  | .pair a b, v, k => match v with
    | .cons h r => exP a h fun x l => exP b r fun y m => k (x, y) (l ++ m)
    | _ => .fail
  | .sl t, v, k => match v with
    | .view o p off len => .rdO o fun c => match AV.at p c with
      | some (.arr t' _ xs) => ofP (castL (u := t) xs) fun ys => k (win ys off len) [o]
      | some (.bk t' xs) => ofP (castL (u := t) xs) fun ys => k (win ys off len) [o]
      | _ => .fail
    | .full o => .rdO o fun c => match c with
      | .bk t' xs => ofP (castL (u := t) xs) fun ys => k ys [o]
      | _ => .fail
    | v => ofP (ofAV (.sl t) v) fun x => k x []
  | .int i, v, k => ofP (ofAV (.int i) v) fun x => k x []
  | .bool, v, k => ofP (ofAV .bool v) fun x => k x []
  | .str, v, k => ofP (ofAV .str v) fun x => k x []
  | .nl, v, k => ofP (ofAV .nl v) fun x => k x []
  | .arr n t, v, k => ofP (ofAV (.arr n t) v) fun x => k x []

/-- a value by its specification: what it is, the objects that it owns, those that were looked into -/
def exS {α : Type} : (s : SP) → AV → (s.den → List Nat → List Nat → Pg α) → Pg α
  | .pure t, v, k => exP t v fun x l => k x [] l
  | .own t, v, k => match v with
    | .full o => .rdO o fun c => match c with
      | .bk t' xs => ofP (castL (u := t) xs) fun ys => k ys [o] []
      | _ => .fail
    | .view o [] off len => .rdO o fun c => match c with
      | .bk t' xs => ofP (castL (u := t) xs) fun ys => k (win ys off len) [o] []
      | _ => .fail
    | .nils => k [] [] []
    | _ => .fail
  | .rptr t, v, k => match v with
    | .ref o p => .rdO o fun c => match AV.at p c with
      | some d => ofP (ofAV t d) fun x => k x [] [o]
      | none => .fail
    | .pref t' x => ofP (castV t x) fun y => k y [] []
    | _ => .fail
  | .ptr s, v, k => match v with
    | .ref o [] => .rdO o fun c => exS s c fun x l m => k x (o :: l) m
    | _ => .fail
  | .nptr s, v, k => match v with
    | .ref o [] => .rdO o fun c => exS s c fun x l m => k (some x) (o :: l) m
    | .nilp => k none [] []
    | _ => .fail
  | .nl, v, k => match v with | .nl => k () [] [] | _ => .fail
  | .cons a b, v, k => match v with
    | .cons h r => exS a h fun x l m => exS b r fun y l' m' => k (x, y) (l ++ l') (m ++ m')
    | _ => .fail

/-- what lies behind the pointers of the arguments v at the end -/
def exO {α : Type} : (s : SP) → AV → (s.odn → List Nat → List Nat → Pg α) → Pg α
  | .pure _, _, k => k () [] []
  | .own _, _, _ => .fail
  | .rptr _, _, k => k () [] []
  | .ptr s, v, k => match v with
    | .ref o [] => .rdO o fun c => exS s c fun x l m => k x (o :: l) m
    | _ => .fail
  | .nptr s, v, k => match v with
    | .ref o [] => .rdO o fun c => exS s c fun x l m => k (some x) (o :: l) m
    | .nilp => k none [] []
    | _ => .fail
  | .nl, _, k => k () [] []
  | .cons a b, v, k => match v with
    | .cons h r => exO a h fun x l m => exO b r fun y l' m' => k (x, y) (l ++ l') (m ++ m')
    | _ => .fail

/-- a value of a specification, its objects new: their names from nx on -/
def inS {α : Type} : (s : SP) → s.den → Nat → (AV → List (Nat × AV) → Nat → Pg α) → Pg α
  | .pure t, x, nx, k => k (toAV t x) [] nx
  | .own t, xs, nx, k => k (.full nx) [(nx, .bk t xs)] (nx + 1)
  | .rptr t, x, nx, k => k (.pref t x) [] nx
  | .ptr s, x, nx, k => inS s x (nx + 1) fun c l n => k (.ref nx []) ((nx, c) :: l) n
  | .nptr s, x, nx, k => .opt s.den x (k .nilp [] nx) fun y => inS s y (nx + 1) fun c l n => k (.ref nx []) ((nx, c) :: l) n
  | .nl, _, nx, k => k .nl [] nx
  | .cons a b, x, nx, k => inS a x.1 nx fun v l n => inS b x.2 n fun u m n' => k (.cons v u) (l ++ m) n'

/-- the pointers' new contents, laid into the objects of the arguments v; the objects within are new -/
def reO {α : Type} : (s : SP) → s.odn → AV → Nat → (List (Nat × AV) → List (Nat × AV) → Nat → Pg α) → Pg α
  | .pure _, _, _, nx, k => k [] [] nx
  | .own _, _, _, nx, k => k [] [] nx
  | .rptr _, _, _, nx, k => k [] [] nx
  | .ptr s, x, v, nx, k => match v with
    | .ref o [] => inS s x nx fun c l n => k [(o, c)] l n
    | _ => .fail
  | .nptr s, x, v, nx, k => match v with
    | .ref o [] => .opt s.den x .fail fun y => inS s y nx fun c l n => k [(o, c)] l n
    | .nilp => k [] [] nx
    | _ => .fail
  | .nl, _, _, nx, k => k [] [] nx
  | .cons a b, x, v, nx, k => match v with
    | .cons h r => reO a x.1 h nx fun w l n => reO b x.2 r n fun w' l' n' => k (w ++ w') (l ++ l') n'
    | _ => .fail

def memN (i : Nat) : List Nat → Bool
  | [] => false
  | j :: r => Nat.beq j i || memN i r
def nodupN : List Nat → Bool
  | [] => true
  | i :: r => !memN i r && nodupN r
def apartN : List Nat → List Nat → Bool
  | [], _ => true
  | i :: r, l => !memN i l && apartN r l

def killAll {α : Type} : List Nat → Pg α → Pg α
  | [], p => p
  | o :: r, p => .wrO o .top (killAll r p)
def newAll {α : Type} : List (Nat × AV) → Pg α → Pg α
  | [], p => p
  | (o, c) :: r, p => .new o c (newAll r p)
/-- each object's skeleton is as it was -/
def wrAll {α : Type} : List (Nat × AV) → Pg α → Pg α
  | [], p => p
  | (o, c) :: r, p => .rdO o fun d => if c.sh = d.sh then .wrO o c (wrAll r p) else .fail
def namesOf (l : List (Nat × AV)) : List Nat := l.map (·.1)

def listAV : List AV → AV
  | [] => .nl
  | v :: r => .cons v (listAV r)
/-- one result is itself, several are a tuple -/
def resAV : AV → AV
  | .cons v .nl => v
  | c => .tup c

/-- the objects that are owned by the arguments but do not lie right behind one of their pointers -/
def without : List Nat → List Nat → List Nat
  | [], _ => []
  | i :: r, l => bif memN i l then without r l else i :: without r l

def SP.noSl : SP → Bool
  | .pure t => t.noSl
  | .own t => t.noSl
  | .rptr _ => false
  | .ptr s => s.noSl
  | .nptr s => s.noSl
  | .nl => true
  | .cons a b => a.noSl && b.noSl
/-- one parameter: behind a pointer no slice is shared -/
def SP.par1 : SP → Bool
  | .pure _ => true
  | .rptr _ => true
  | .ptr s => s.noSl
  | .nptr s => s.noSl
  | _ => false
def SP.parOk : SP → Bool
  | .nl => true
  | .cons a b => a.par1 && b.parOk
  | _ => false
/-- a list of values, one after the other -/
def SP.isList : SP → Bool
  | .nl => true
  | .cons _ b => b.isList
  | _ => false
def Sig.ok (g : Sig) : Bool := g.rs.noSl && g.ps.parOk && g.rs.isList

def callPg (g : Sig) (vs : List AV) (nx : Nat) : Pg AV :=
  bif g.ok then
  exS g.ps (listAV vs) fun x own ro =>
    bif nodupN own && apartN own ro then
      .bind g.T (g.m x) fun r =>
        reO g.ps (g.out x r) (listAV vs) nx fun ws news n =>
          inS g.rs (g.res x r) n fun v news' _ =>
            bif nodupN (namesOf ws ++ (without own (namesOf ws) ++ (namesOf news ++ namesOf news'))) then
              wrAll ws (killAll (without own (namesOf ws)) (newAll (news ++ news') (.ret (resAV v))))
            else .fail
    else .fail
  else .fail

def ofConst : Value → AV
  | .int k n => .int k n
  | .bool b => .bool b
  | .string s => .str s
  | .slice none 0 0 => .nils
  | .pointer none => .nilp
  | .nilIface => .nili
  | _ => .top
def rdX {α : Type} (x : Operand) (k : AV → Pg α) : Pg α := match x with
  | .tmp t => .rdT t k
  | .const v => k (ofConst v)
  | .func f => k (.fn f)
  | .global _ => .fail
def rdXs {α : Type} : List Operand → (List AV → Pg α) → Pg α
  | [], k => k []
  | x :: r, k => rdX x fun v => rdXs r fun vs => k (v :: vs)
def rdXo {α : Type} : Option Operand → (Option AV → Pg α) → Pg α
  | none, k => k none
  | some x, k => rdX x fun v => k (some v)

def tst (c : Prop) [d : Decidable c] (p : Pg AV) : Pg AV := .test c d p

def binI (op : BinOp) (k : IntKind) (x y : Int) : Pg AV := match op with
  | .add => .ret (.int k (k.wrap (x + y)))
  | .sub => .ret (.int k (k.wrap (x - y)))
  | .mul => .ret (.int k (k.wrap (x * y)))
  | .quo => tst (y ≠ 0) (.ret (.int k (k.wrap (x.tdiv y))))
  | .rem => tst (y ≠ 0) (.ret (.int k (x.tmod y)))
  | .and => .ret (.int k (band k x y))
  | .or => .ret (.int k (bor k x y))
  | .xor => .ret (.int k (bxor k x y))
  | .andNot => .ret (.int k (bandn k x y))
  | .eql => .ret (.bool (x == y))
  | .neq => .ret (.bool (x != y))
  | .lss => .ret (.bool (decide (x < y)))
  | .leq => .ret (.bool (decide (x ≤ y)))
  | .gtr => .ret (.bool (decide (x > y)))
  | .geq => .ret (.bool (decide (x ≥ y)))
  | _ => .fail
def strEq (x y : ByteArray) : Bool := x.toList == y.toList
def strLt (x y : ByteArray) : Bool := Op.bytesLess x.toList y.toList
def binS (op : BinOp) (x y : ByteArray) : Pg AV := match op with
  | .add => tst (x.size + y.size < 9223372036854775808) (.ret (.str (x ++ y)))
  | .eql => .ret (.bool (strEq x y))
  | .neq => .ret (.bool (!strEq x y))
  | .lss => .ret (.bool (strLt x y))
  | .leq => .ret (.bool (strLt x y || strEq x y))
  | .gtr => .ret (.bool (!(strLt x y || strEq x y)))
  | .geq => .ret (.bool (!strLt x y))
  | _ => .fail
/-- '==' on structs and arrays of a type -/
def aggEq (ti : TI) (a b : AV) (k : Bool → Pg AV) : Pg AV := match ti.ty with
  | some t => bif ti.eq && a.agg && b.agg then (match ofAV t a with
      | some x => match ofAV t b with | some y => k (Ty.beq t x y) | none => .fail
      | none => .fail) else .fail
  | none => .fail
def binPg (C : Cx) (op : BinOp) (T : Nat) (a b : AV) : Pg AV := match a, b with
  | .int k x, .int k' y => (match op with
    | .shl => tst (0 ≤ y) (.ret (.int k (shlI k x y)))
    | .shr => tst (0 ≤ y) (.ret (.int k (shrI k x y)))
    | _ => if k = k' then binI op k x y else .fail)
  | .str x, .str y => binS op x y
  | .bool x, .bool y => (match (C.D T).k, op with
    | .bool, .eql => .ret (.bool (x == y))
    | .bool, .neq => .ret (.bool (!(x == y)))
    | _, _ => .fail)
  | .nilp, .nilp => (match (C.D T).k, op with
    | .ptr _, .eql => .ret (.bool true)
    | .ptr _, .neq => .ret (.bool false)
    | _, _ => .fail)
  | .ref _ _, .nilp => (match (C.D T).k, op with
    | .ptr _, .eql => .ret (.bool false)
    | .ptr _, .neq => .ret (.bool true)
    | _, _ => .fail)
  | .nilp, .ref _ _ => (match (C.D T).k, op with
    | .ptr _, .eql => .ret (.bool false)
    | .ptr _, .neq => .ret (.bool true)
    | _, _ => .fail)
  | .nils, .nils => (match (C.D T).k, op with
    | .sl _, .eql => .ret (.bool true)
    | .sl _, .neq => .ret (.bool false)
    | _, _ => .fail)
  | .lst _ xs, .nils => (match (C.D T).k, op with
    | .sl _, .eql => tst (0 < xs.length) (.ret (.bool false))
    | .sl _, .neq => tst (0 < xs.length) (.ret (.bool true))
    | _, _ => .fail)
  | .full o, .nils => .rdO o fun c => (match c, (C.D T).k, op with
    | .bk _ xs, .sl _, .eql => tst (0 < xs.length) (.ret (.bool false))
    | .bk _ xs, .sl _, .neq => tst (0 < xs.length) (.ret (.bool true))
    | _, _, _ => .fail)
  | a, b => (match op with
    | .eql => aggEq (C.D T) a b fun r => .ret (.bool r)
    | .neq => aggEq (C.D T) a b fun r => .ret (.bool (!r))
    | _ => .fail)
def TK.conc : TK → Bool
  | .iface => false
  | .other => false
  | _ => true
def isConst : Operand → Bool
  | .const _ => true
  | _ => false
def ifaceEq (k : TK) (op : BinOp) (r : Bool) : Pg AV := match k, op with
  | .iface, .eql => .ret (.bool r)
  | .iface, .neq => .ret (.bool (!r))
  | _, _ => .fail
/-- values of interface types are compared with nil alone -/
def binQ (C : Cx) (op : BinOp) (T : Nat) (x y : Operand) (a b : AV) : Pg AV := match a, b with
  | .nili, .nili => bif isConst x || isConst y then ifaceEq (C.D T).k op true else .fail
  | .iface _ _, .nili => ifaceEq (C.D T).k op false
  | .nili, .iface _ _ => ifaceEq (C.D T).k op false
  | a, b => binPg C op T a b
def mkIf (C : Cx) (T : Nat) (v : AV) : Pg AV := if v.sh = .leaf then (bif (C.D T).k.conc then .ret (.iface T v) else .fail) else .fail
def asPg (C : Cx) (T : Nat) (ok : Bool) (v : AV) : Pg AV := match v with
  | .iface T' u => bif (C.D T).k.conc && Nat.beq T' T then (bif ok then .ret (.tup (.cons u (.cons (.bool true) .nl))) else .ret u) else .fail
  | _ => .fail
def unPg (op : UnOp) (a : AV) : Pg AV := match op, a with
  | .not, .bool b => .ret (.bool (!b))
  | .neg, .int k n => .ret (.int k (k.wrap (0 - n)))
  | _, _ => .fail

def lenPg : AV → Pg AV
  | .str s => .ret (.int .i64 s.size)
  | .lst _ xs => .ret (.int .i64 xs.length)
  | .nils => .ret (.int .i64 0)
  | .view _ _ _ len => .ret (.int .i64 len)
  | .full o => .rdO o fun c => match c with | .bk _ xs => .ret (.int .i64 xs.length) | _ => .fail
  | .pv _ n => .ret (.int .i64 n)
  | _ => .fail

def bound (x : Option AV) (d : Int) : Option Int := match x with
  | none => some d
  | some (.int _ n) => some n
  | some _ => none
/-- 'x[lo:hi]' of something with n elements -/
def cutPg (n : Int) (lo hi : Option AV) (k : Int → Int → Pg AV) : Pg AV := match bound lo 0, bound hi n with
  | some l, some h => tst (0 ≤ h) <| tst (h ≤ n) <| tst (0 ≤ l) <| tst (l ≤ h) <| k l h
  | _, _ => .fail
def slicePg (C : Cx) (T : Nat) (x : AV) (lo hi : Option AV) : Pg AV := match x with
  | .ref o p => (match (C.D T).k with
    | .arr m e => .rdO o fun c => (match AV.at p c with
      | some (.arr t n _) => if t.size = (C.D e).size ∧ m = n then cutPg n lo hi fun l h => .ret (.view o p l (h - l)) else .fail
      | _ => .fail)
    | _ => .fail)
  | .pref (.arr n t) xs => (match (C.D T).k with
    | .arr m e => if t.size = (C.D e).size ∧ m = n then cutPg n lo hi fun l h => .ret (.lst t (win xs l (h - l))) else .fail
    | _ => .fail)
  | .str s => (match (C.D T).k with
    | .str => cutPg s.size lo hi fun l h => .ret (.str (s.extract l.toNat h.toNat))
    | _ => .fail)
  | .lst t xs => (match (C.D T).k with
    | .sl e => if t.size = (C.D e).size then cutPg xs.length lo hi fun l h => .ret (.lst t (win xs l (h - l))) else .fail
    | _ => .fail)
  | .view o p off len => (match (C.D T).k with
    | .sl e => .rdO o fun c => (match AV.at p c with
      | some (.arr t _ _) => if t.size = (C.D e).size then cutPg len lo hi fun l h => .ret (.view o p (off + l) (h - l)) else .fail
      | some (.bk t _) => if t.size = (C.D e).size then cutPg len lo hi fun l h => .ret (.view o p (off + l) (h - l)) else .fail
      | _ => .fail)
    | _ => .fail)
  | .full o => (match (C.D T).k with
    | .sl e => .rdO o fun c => (match c with
      | .bk t xs => if t.size = (C.D e).size then cutPg xs.length lo hi fun l h => .ret (.view o [] l (h - l)) else .fail
      | _ => .fail)
    | _ => .fail)
  | .nils => (match (C.D T).k with
    | .sl _ => cutPg 0 lo hi fun _ _ => .ret .nils
    | _ => .fail)
  | _ => .fail

def idxPg (C : Cx) (T : Nat) (a : AV) (i : Int) : Pg AV := match a with
  | .ref o p => (match (C.D T).k with
    | .arr m e => .rdO o fun c => (match AV.at p c with
      | some (.arr t n _) => if t.size = (C.D e).size ∧ m = n then tst (0 ≤ i) <| tst (i < n) <| .ret (.ref o (p ++ [.idx i])) else .fail
      | _ => .fail)
    | _ => .fail)
  | .pref (.arr n t) xs => (match (C.D T).k with
    | .arr m e => if t.size = (C.D e).size ∧ m = n then tst (0 ≤ i) <| tst (i < n) <| .ret (.pref t (rd t xs i)) else .fail
    | _ => .fail)
  | .view o p off len => (match (C.D T).k with
    | .sl e => .rdO o fun c => (match AV.at p c with
      | some (.arr t _ _) => if t.size = (C.D e).size then tst (0 ≤ i) <| tst (i < len) <| .ret (.ref o (p ++ [.idx (off + i)])) else .fail
      | some (.bk t _) => if t.size = (C.D e).size then tst (0 ≤ i) <| tst (i < len) <| .ret (.ref o (p ++ [.idx (off + i)])) else .fail
      | _ => .fail)
    | _ => .fail)
  | .full o => (match (C.D T).k with
    | .sl e => .rdO o fun c => (match c with
      | .bk t xs => if t.size = (C.D e).size then tst (0 ≤ i) <| tst (i < xs.length) <| .ret (.ref o [.idx i]) else .fail
      | _ => .fail)
    | _ => .fail)
  | .lst t xs => (match (C.D T).k with
    | .sl e => if t.size = (C.D e).size then tst (0 ≤ i) <| tst (i < xs.length) <| .ret (.pref t (rd t xs i)) else .fail
    | _ => .fail)
  | .pv o n => (match (C.D T).k with
    | .sl e => if (C.D e).size = 1 then .rdO o fun c => (match c.sh.nth i.toNat with
      | some (k, _) => if k = i.toNat then tst (0 ≤ i) <| tst (i < n) <| .ret (.ref o [.fld i.toNat]) else .fail
      | none => .fail) else .fail
    | _ => .fail)
  | _ => .fail
def bkB : AV → Bool
  | .bk _ _ => true
  | _ => false
def TK.agg : TK → Bool
  | .st _ => true
  | .arr _ _ => true
  | _ => false
def TK.ok : TK → Bool
  | .other => false
  | _ => true
def loadOk (ti : TI) (v : AV) : Bool := Nat.beq v.sh.size ti.size && (if v.agg then ti.k.agg else (!ti.k.agg && decide (v.sh = .leaf)))
/-- an element of a string or of an array's value -/
def elPg (C : Cx) (T : Nat) (a : AV) (i : Int) : Pg AV := match a with
  | .str s => (match (C.D T).k with | .str => tst (0 ≤ i) <| tst (i < s.size) <| .ret (.int .u8 (bt s i)) | _ => .fail)
  | .arr t n xs => (match (C.D T).k with
    | .arr m e => bif Nat.beq m n && loadOk (C.D e) (toAV t (rd t xs i)) then tst (0 ≤ i) <| tst (i < n) <| .ret (toAV t (rd t xs i)) else .fail
    | _ => .fail)
  | _ => .fail
def fieldPg (C : Cx) (T : Nat) (a : AV) (f : Nat) : Pg AV := match (C.D T).k with
  | .st fs => (match fs[f]? with
    | some (ft, off) => (match a.nth f with
      | some v => (match a.sh.nth f with
        | some (k, _) => bif Nat.beq k off && loadOk (C.D ft) v then .ret v else .fail
        | none => .fail)
      | none => .fail)
    | none => .fail)
  | _ => .fail
def prefFld : (t : Ty) → t.den → Nat → Nat → Nat → Pg AV
  | .pair a b, x, 0, k, off => if k = off then .ret (.pref a x.1) else .fail
  | .pair a b, x, f + 1, k, off => prefFld b x.2 f (k + a.size) off
  | _, _, _, _, _ => .fail
def fldPg (C : Cx) (T : Nat) (a : AV) (f : Nat) : Pg AV := match (C.D T).k with
  | .st fs => (match fs[f]? with
    | some (ft, off) => bif (C.D ft).k.ok && !Nat.beq (C.D ft).size 0 then (match a with
      | .ref o p => .rdO o fun c => (match AV.at p c with
        | some d => (match d.sh.nth f with
          | some (k, _) => if k = off then .ret (.ref o (p ++ [.fld f])) else .fail
          | none => .fail)
        | none => .fail)
      | .pref t x => prefFld t x f 0 off
      | _ => .fail) else .fail
    | none => .fail)
  | _ => .fail
def loadPg (C : Cx) (T : Nat) (a : AV) : Pg AV := match a with
  | .ref o p => .rdO o fun c => (match AV.at p c with
    | some v => bif loadOk (C.D T) v then .ret v else .fail
    | none => .fail)
  | .pref t x => bif loadOk (C.D T) (toAV t x) then .ret (toAV t x) else .fail
  | _ => .fail
def storePg (C : Cx) (T : Nat) (a v : AV) : Pg AV := match a with
  | .ref o p => .rdO o fun c => (match AV.put p c v with
    | some c' => bif Nat.beq v.sh.size (C.D T).size && !v.dead && !bkB v && (C.D T).k.ok then .wrO o c' (.ret .top) else .fail
    | none => .fail)
  | _ => .fail

def convPg (C : Cx) (src dst : Nat) (a : AV) (d : Nat) : Pg AV := bif (C.D src).k.ok then (match a with
  | .int _ n => (match (C.D dst).k with
    | .int k => .ret (.int k (k.wrap n))
    | .str => .ret (.str (Utf8.encode n))
    | _ => .fail)
  | .str s => (match (C.D dst).k with
    | .str => .ret (.str s)
    | .sl e => (match (C.D e).k with
      | .int .u8 => tst (s.size < 9223372036854775808) <| .new d (.bk (.int .u8) (bytesOf s)) (.ret (.full d))
      | _ => .fail)
    | _ => .fail)
  | a => (match (C.D src).k with
    | .sl e => (match (C.D dst).k with
      | .str => (match (C.D e).k with
        | .int .u8 => exP (.sl (.int .u8)) a fun x _ => .ret (.str (strOf x))
        | _ => .fail)
      | _ => .fail)
    | _ => .fail)) else .fail

/-- the largest number of elements: in all at most 2^47 bytes -/
def fits (n bytes : Nat) : Prop := n * bytes ≤ 140737488355328
instance (n b : Nat) : Decidable (fits n b) := by unfold fits; infer_instance

/-- what is appended: its elements -/
def appPg (C : Cx) (T : Nat) (a b : AV) (d : Nat) : Pg AV := match (C.D T).k with
  | .sl e => (match (C.D e).ty with
    | some t => bif !t.noSl || Nat.beq (C.D e).bytes 0 then .fail else exP (.sl t) b fun ys ro => (match a with
      | .nils => tst (fits ys.length (C.D e).bytes) <| .new d (.bk t ys) (.ret (.full d))
      | .full o => .rdO o fun c => (match c with
        | .bk t' xs => ofP (castL (u := t) xs) fun xs => bif memN o ro then .fail else tst (fits (xs.length + ys.length) (C.D e).bytes) <| .wrO o .top (.new d (.bk t (xs ++ ys)) (.ret (.full d)))
        | _ => .fail)
      | .view o [] off len => .rdO o fun c => (match c with
        | .bk t' xs => ofP (castL (u := t) xs) fun xs => bif memN o ro then .fail else tst (fits ((win xs off len).length + ys.length) (C.D e).bytes) <|
            .wrO o .top (.new (Nat.add 500000 d) (.bk t (win xs off len)) (.wrO (Nat.add 500000 d) .top (.new d (.bk t (win xs off len ++ ys)) (.ret (.full d)))))
        | _ => .fail)
      | _ => .fail)
    | none => .fail)
  | _ => .fail
def copyPg (C : Cx) (T T2 : Nat) (a b : AV) : Pg AV := match (C.D T).k with
  | .sl e => (match (C.D T2).k with
    | .sl _ => (match (C.D e).ty with
      | some t => bif !t.noSl then .fail else (match a with
        | .view o p off len => exP (.sl t) b fun ys _ => .rdO o fun c => (match AV.at p c with
          | some (.arr t' n xs) => ofP (castL (u := t') (ys.take len.toNat)) fun zs =>
              ofP (AV.put p c (.arr t' n (splice xs off zs))) fun c' => .wrO o c' (.ret (.int .i64 (mn ys.length len)))
          | _ => .fail)
        | _ => .fail)
      | none => .fail)
    | _ => .fail)
  | _ => .fail
def clearPg (C : Cx) (T : Nat) (a : AV) : Pg AV := match (C.D T).k with
  | .sl e => (match (C.D e).ty with
    | some t => bif !t.noSl then .fail else (match a with
      | .view o p off len => .rdO o fun c => (match AV.at p c with
        | some (.arr t' n xs) => ofP (castL (u := t') (List.replicate len.toNat t.dflt)) fun zs =>
            ofP (AV.put p c (.arr t' n (splice xs off zs))) fun c' => .wrO o c' (.ret .top)
        | _ => .fail)
      | _ => .fail)
    | none => .fail)
  | _ => .fail
def makePg (C : Cx) (T : Nat) (l c : AV) (d : Nat) : Pg AV := match l, c with
  | .int _ n, .int _ m => (match (C.D T).k with
    | .sl e => (match (C.D e).ty with
      | some t => if (C.D e).bytes = 0 then .fail else tst (0 ≤ n) <| tst (n ≤ m) <| tst (fits m.toNat (C.D e).bytes) <| .new d (.bk t (List.replicate n.toNat t.dflt)) (.ret (.full d))
      | none => .fail)
    | _ => .fail)
  | _, _ => .fail

def setParts (C : Cx) (fs : List (Nat × Nat)) : List (Nat × AV) → AV → Option AV
  | [], c => some c
  | (i, v) :: r, c => match fs[i]? with
    | some (ft, off) => (match c.sh.nth i with
      | some (k, e) => bif Nat.beq k off && Nat.beq e.size (C.D ft).size && !v.dead && !bkB v then (match AV.put [.fld i] c v with | some c' => setParts C fs r c' | none => none) else none
      | none => none)
    | none => none
def allOk (C : Cx) : List (Nat × Nat) → Bool
  | [] => true
  | (ft, _) :: r => (C.D ft).k.ok && allOk C r
def buildPg (C : Cx) (T : Nat) (is : List Nat) (vs : List AV) : Pg AV := match (C.D T).k with
  | .st fs => bif allOk C fs && !(C.D T).zero.dead && (C.D T).zero.agg then ofP (setParts C fs (is.zip vs) (C.D T).zero) .ret else .fail
  | .arr _ e => (match vs with | [] => bif (C.D e).k.ok && !(C.D T).zero.dead && (C.D T).zero.agg then .ret (C.D T).zero else .fail | _ => .fail)
  | _ => .fail
def litOf (t : Ty) : List AV → Option (List t.den)
  | [] => some []
  | v :: r => match ofAV t v with | some x => (match litOf t r with | some xs => some (x :: xs) | none => none) | none => none
/-- are the numbers 0, 1, 2, ..? -/
def isRange : List Nat → Nat → Bool
  | [], _ => true
  | i :: r, j => Nat.beq i j && isRange r (j + 1)
def leafs : List AV → Bool
  | [] => true
  | v :: r => (match v.sh with | .leaf => true | _ => false) && leafs r
/-- a slice of pointers: its elements lie one after the other -/
def bslV (ti : TI) (len : Nat) (is : List Nat) (vs : List AV) (d : Nat) : Pg AV :=
  bif isRange is 0 && Nat.beq is.length len && (Nat.blt 0 len && Nat.blt len 16777217) && (Nat.beq ti.size 1 && ti.k.ok) && leafs vs then .new d (listAV vs) (.ret (.pv d len)) else .fail
def bslPg (C : Cx) (T len : Nat) (is : List Nat) (vs : List AV) (d : Nat) : Pg AV := match (C.D T).k with
  | .sl e => (match (C.D e).ty with
    | some t => bif isRange is 0 && Nat.beq is.length len && Nat.blt (len * (C.D e).size) 16777217 then ofP (litOf t vs) fun xs => .new d (.bk t xs) (.ret (.full d)) else .fail
    | none => bslV (C.D e) len is vs d)
  | _ => .fail

def mxS (x y : ByteArray) : ByteArray := if strLt x y then y else x
def mnS (x y : ByteArray) : ByteArray := if strLt x y || strEq x y then x else y
def mnmxPg (f : Int → Int → Int) (g : ByteArray → ByteArray → ByteArray) : List AV → Pg AV
  | [.str x, .str y] => .ret (.str (g x y))
  | [.int k x, .int _ y] => .ret (.int k (f x y))
  | [.int k x, .int _ y, .int _ z] => .ret (.int k (f (f x y) z))
  | _ => .fail

def lenOk (k : TK) (v : AV) : Bool := match v with
  | .str _ => (match k with | .str => true | _ => false)
  | _ => (match k with | .sl _ => true | _ => false)
def builtPg (C : Cx) (b : Builtin) (Ts : List Nat) (vs : List AV) (d : Nat) : Pg AV := match b, Ts, vs with
  | .len, [T], [v] => bif lenOk (C.D T).k v then lenPg v else .fail
  | .append, [T, T2], [a, v] => bif Nat.beq T T2 then appPg C T a v d else .fail
  | .copy, [T, T2], [a, v] => copyPg C T T2 a v
  | .clear, [T], [a] => clearPg C T a
  | .max, _, vs => mnmxPg mx mxS vs
  | .min, _, vs => mnmxPg mn mnS vs
  | _, _, _ => .fail

/-- a call of a function: by what it promises, or by its body -/
def fnPg (C : Cx) (f : Nat) (vs : List AV) (d : Nat) : Pg AV := match C.G f with
  | some g => callPg g vs (Nat.add C.b (Nat.add 200000 (Nat.mul 32 d)))
  | none => match C.I f with
    | some p => p vs (Nat.mul 1000000 (Nat.add 1000 (Nat.add C.b d)))
    | none => .fail
def opPg (C : Cx) (o : Oper) : Pg AV := match o.op with
  | .move x => rdX x .ret
  | .assign x => rdX x .ret
  | .pick c a b => match c with
    | .tmp t => .br t (rdX a .ret) (rdX b .ret)
    | _ => .fail
  | .alloc T => match o.dst with | some d => bif (C.D T).zero.dead then .fail else .new (Nat.add C.b d) (C.D T).zero (.ret (.ref (Nat.add C.b d) [])) | none => .fail
  | .box _ x => match o.dst with | some d => rdX x fun v => bif v.dead || bkB v then .fail else .new (Nat.add C.b d) v (.ret (.ref (Nat.add C.b d) [])) | none => .fail
  | .build T parts => rdXs (parts.toList.map (·.2)) fun vs => buildPg C T (parts.toList.map (·.1)) vs
  | .buildSlice T len parts => match o.dst with
    | some d => rdXs (parts.toList.map (·.2)) fun vs => bslPg C T len (parts.toList.map (·.1)) vs (Nat.add C.b d)
    | none => .fail
  | .load T x => rdX x fun a => loadPg C T a
  | .store T x y => match o.dst with | none => rdX x fun a => rdX y fun v => storePg C T a v | some _ => .fail
  | .nilCheck x => rdX x fun v => match v with | .ref o p => .ret (.ref o p) | .pref t x => .ret (.pref t x) | _ => .fail
  | .binOp op T x y _ => rdX x fun a => rdX y fun b => binQ C op T x y a b
  | .makeInterface T x => rdX x fun v => mkIf C T v
  | .typeAssert x _ T ok => rdX x fun v => asPg C T ok v
  | .unOp op _ x => rdX x fun a => unPg op a
  | .convert src dst x => rdX x fun a => convPg C src dst a (Nat.add C.b (o.dst.getD 0))
  | .makeSlice T l c => match o.dst with | some d => rdX l fun a => rdX c fun b => makePg C T a b (Nat.add C.b d) | none => .fail
  | .slice T x lo hi none => rdX x fun a => rdXo lo fun l => rdXo hi fun h => slicePg C T a l h
  | .fieldAddr T x f => rdX x fun a => fldPg C T a f
  | .field T x f => rdX x fun a => fieldPg C T a f
  | .indexAddr T x i => rdX x fun a => rdX i fun j => match j with | .int _ i => idxPg C T a i | _ => .fail
  | .index T x i => rdX x fun a => rdX i fun j => match j with | .int _ i => elPg C T a i | _ => .fail
  | .extract x i => rdX x fun a => match a with | .tup c => (match c.nth i with | some v => .ret v | none => .fail) | _ => .fail
  | .call c => match c.callee with
    | .builtin b => rdXs c.args.toList fun vs => match o.dst with
      | some d => builtPg C b c.argTypes.toList vs (Nat.add C.b d)
      | none => (match b with | .copy => builtPg C b c.argTypes.toList vs 0 | .clear => builtPg C b c.argTypes.toList vs 0 | _ => .fail)
    | .value (.func f) => rdXs c.args.toList fun vs => fnPg C f vs (o.dst.getD 0)
    | .invoke r name => rdX r fun v => match v with
      | .iface T x => (match C.M T name with
        | some f => rdXs c.args.toList fun vs => fnPg C f (x :: vs) (o.dst.getD 0)
        | none => .fail)
      | _ => .fail
    | _ => .fail
  | _ => .fail

def dstOf (ops : List Oper) (j : Nat) : Option Nat := match ops[j]? with | some o => o.dst | none => none
def guardPg (ops : List Oper) (o : Oper) (p : Pg AV) : Pg AV := match o.guard with
  | none => p
  | some (j, want) => match dstOf ops j with
    | some t => .rdT t fun v => match v with
      | .tup .nl => .ret (.tup .nl)
      | _ => if want then .br t p (.ret (.tup .nl)) else .br t (.ret (.tup .nl)) p
    | none => .fail
def putDst (o : Oper) (v : AV) (s : St) : Option St := match o.dst with
  | some d => bif Nat.blt d s.n then some (s.setT d v) else none
  | none => some s

def opsK {R : Type} (C : Cx) (ops : List Oper) : List Oper → St → (St → Option R) → Option R
  | [], s, k => k s
  | o :: r, s, k => (guardPg ops o (opPg C o)).runK s fun v s' => match putDst o v s' with
    | some s'' => opsK C ops r s'' k
    | none => none

/-- what an operation looked at and what it wrote -/
structure Ft where
  rt : List Nat
  ro : List Nat
  wt : List Nat
  wo : List Nat

def Pg.runF {α R : Type} (s : St) : Pg α → Ft → (α → St → Ft → Option R) → Option R
  | .ret v, f, k => k v s f
  | .fail, _, _ => none
  | .rdT t g, f, k => (g (s.t t)).runF s { f with rt := t :: f.rt } k
  | .rdO o g, f, k => match s.o o with | some c => bif c.dead then none else (g c).runF s { f with ro := o :: f.ro } k | none => none
  | .wrO o c p, f, k => match s.o o with | some _ => p.runF (s.setO o c) { f with wo := o :: f.wo } k | none => none
  | .new o c p, f, k => match s.o o with | none => p.runF (s.setO o c) { f with wo := o :: f.wo } k | some _ => none
  | .br t p q, f, k => match s.t t with
    | .bool b => if b then p.runF (s.setT t (.bool true)) { f with rt := t :: f.rt } k else q.runF (s.setT t (.bool false)) { f with rt := t :: f.rt } k
    | _ => none
  | .test c d p, f, k => @ite _ c d (p.runF s f k) none
  | .bind _ m g, f, k => m.bind fun r => (g r).runF s f k
  | .opt _ m p g, f, k => match m with | none => p.runF s f k | some r => (g r).runF s f k
  | .sel b p q, f, k => if b then p.runF s f k else q.runF s f k

def meetN : List Nat → List Nat → Bool
  | [], _ => false
  | i :: r, l => memN i l || meetN r l
def Ft.clash (f g : Ft) : Bool := meetN f.wt g.rt || meetN f.wt g.wt || meetN f.rt g.wt || meetN f.wo g.ro || meetN f.wo g.wo || meetN f.ro g.wo

/-- the operations that come before each one, as bits: of the first i operations -/
def edgeBits : List Edge → List Nat → Nat
  | [], _ => 0
  | e :: r, ms => if Region.binds .any e then Nat.lor (Nat.lor (2 ^ e.on) (ms.getD e.on 0)) (edgeBits r ms) else edgeBits r ms
def masks : List Oper → List Nat → List Nat
  | [], ms => ms
  | o :: r, ms => masks r (ms ++ [edgeBits o.after.toList ms])
/-- all bound edges go back -/
def edgesBack : List Oper → Nat → Bool
  | [], _ => true
  | o :: r, i => (o.after.toList.all fun e => !Region.binds .any e || Nat.blt e.on i) && edgesBack r (i + 1)
def clashAll (ms : List Nat) (i : Nat) (f : Ft) : List (Nat × Ft) → Bool
  | [] => false
  | (j, g) :: r => (!(ms.getD i 0).testBit j && Ft.clash g f) || clashAll ms i f r

def opsF {R : Type} (C : Cx) (ops : List Oper) (ms : List Nat) : List Oper → Nat → St → List (Nat × Ft) → (St → Option R) → Option R
  | [], _, s, _, k => k s
  | o :: r, i, s, acc, k => (guardPg ops o (opPg C o)).runF s ⟨[], [], o.dst.toList, []⟩ fun v s' f =>
    bif clashAll ms i f acc then none else
    match putDst o v s' with
    | some s'' => opsF C ops ms r (i + 1) s'' ((i, f) :: acc) k
    | none => none

inductive Ex where | normal | ret | exit (id : Nat)

structure Ann where
  keep : List Nat
  own : List (Nat × SP × Nat)
  objs : List Nat
  cut : Bool
  rows : List (Nat × List PS × SP × Nat)

def AV.names : AV → List Nat
  | .ref o _ => [o]
  | .view o _ _ _ => [o]
  | .full o => [o]
  | .pv o _ => [o]
  | .cons h t => h.names ++ t.names
  | .tup c => c.names
  | .iface _ v => v.names
  | _ => []
def subN : List Nat → List Nat → Bool
  | [], _ => true
  | i :: r, l => memN i l && subN r l
/-- what lies behind a place in an object gets names of its own -/
def ownSP (s : St) (v : AV) (sp : SP) (nm : Nat) : Option (AV × List (Nat × AV) × List Nat) :=
  (exS (α := sp.den × List Nat) sp v fun x own ro => match ro with | [] => .ret (x, own) | _ => .fail).runK s fun y _ =>
    (inS (α := AV × List (Nat × AV)) sp y.1 nm fun v l _ => .ret (v, l)).runK s fun z _ => some (z.1, z.2, y.2)
/-- a slot whose value is one's own: what lies behind it gets names of its own -/
def ownOne (s : St) (t : Nat) (sp : SP) (nm : Nat) : Option (AV × List (Nat × AV) × List Nat) := match (s.t t).sh with
  | .leaf => (match ownSP s (s.t t) sp nm with
    | some (v, l, os) => (match v.sh with | .leaf => some (v, l, os) | _ => none)
    | none => none)
  | _ => none
def ownAll (s : St) : List (Nat × SP × Nat) → Option (List (Nat × AV) × List (Nat × AV) × List Nat)
  | [] => some ([], [], [])
  | (t, sp, nm) :: r => match ownOne s t sp nm with
    | some (v, l, os) => match ownAll s r with
      | some (ts, obs, used) => some ((t, v) :: ts, l ++ obs, os ++ used)
      | none => none
    | none => none
def keepT (s : St) : List Nat → List (Nat × AV)
  | [] => []
  | t :: r => (t, s.t t) :: keepT s r
def namesAll : List (Nat × AV) → List Nat
  | [] => []
  | (_, v) :: r => v.names ++ namesAll r
def rowsAll (s : St) : List (Nat × List PS × SP × Nat) → Option (List (Nat × AV) × List Nat × List (Nat × List PS × AV))
  | [] => some ([], [], [])
  | (o, p, sp, nm) :: r => match s.o o with
    | some c => match AV.at p c with
      | some v => match Sh.off p c.sh with
        | some (_, .leaf) => match ownSP s v sp nm with
          | some (v', l, os) => match rowsAll s r with
            | some (obs, used, vs) => some (l ++ obs, os ++ used, (o, p, v') :: vs)
            | none => none
          | none => none
        | _ => none
      | none => none
    | none => none
def rowIn : List (Nat × List PS × AV) → Nat → Option (List PS × AV)
  | [], _ => none
  | (o, p, v) :: r, i => bif Nat.beq o i then some (p, v) else rowIn r i
def keepR (s : St) (rows : List (Nat × List PS × AV)) : List Nat → Option (List (Nat × AV) × List (Nat × AV))
  | [] => some ([], [])
  | o :: r => match s.o o with
    | some c => match rowIn rows o with
      | none => (match keepR s rows r with | some (l0, l1) => some ((o, c) :: l0, (o, c) :: l1) | none => none)
      | some (p, v) => match AV.put p c .nils with
        | some c0 => match AV.put p c0 v with
          | some c1 => (match keepR s rows r with | some (l0, l1) => some ((o, c0) :: l0, (o, c1) :: l1) | none => none)
          | none => none
        | none => none
    | none => none
def nrm (a : Ann) (s : St) : Option St := match ownAll s a.own with
  | some (ts, obs, used) => match rowsAll s a.rows with
    | some (obsR, usedR, vs) => match keepR s vs a.objs with
      | some (l0, l) => bif nodupN ((used ++ usedR) ++ a.objs) && nodupN (namesOf (l ++ (obs ++ obsR))) && subN (namesAll (keepT s a.keep) ++ namesAll l0) a.objs then
          some ⟨s.n, ts ++ keepT s a.keep, l ++ (obs ++ obsR)⟩ else none
      | none => none
    | none => none
  | none => none

def firstRegion : Code → Nat
  | .region id _ _ => id
  | .seq a _ => firstRegion a
  | .block _ a => firstRegion a
  | .scope a => firstRegion a
  | .loop a => firstRegion a
  | _ => 0

/-- where the code is cut, the state is brought to a kept form -/
def cutS (a : Ann) (s : St) : Option St := bif a.cut then nrm a s else some s

def loopK {R : Type} (nm : St → Option St) (body : St → (Ex → St → Option R) → Option R) (k : Ex → St → Option R) : Nat → St → Option R
  | 0, _ => none
  | n + 1, s => body s fun e s' => match e with
    | .normal => (match nm s' with | some s'' => loopK nm body k n s'' | none => none)
    | .ret => k .ret s'
    | .exit i => k (.exit i) s'

def FUEL : Nat := 1048576

def evalK {R : Type} (C : Cx) (ann : Nat → Ann) : Code → St → (Ex → St → Option R) → Option R
  | .skip, s, k => k .normal s
  | .label _, s, k => k .normal s
  | .region _ ops draw, s, k =>
    if draw then (bif edgesBack ops.toList 0 then opsF C ops.toList (masks ops.toList []) ops.toList 0 s [] fun s' => k .normal s' else none)
    else opsK C ops.toList ops.toList s fun s' => k .normal s'
  | .seq a b, s, k => evalK C ann a s fun e s' => match e with
    | .normal => (match cutS (ann (Nat.add 1000000 (firstRegion b))) s' with | some s'' => evalK C ann b s'' k | none => none)
    | .ret => k .ret s'
    | .exit i => k (.exit i) s'
  | .cond c a b, s, k => match c with
    | .tmp t => (match s.t t with
      | .bool x => if x then evalK C ann a (s.setT t (.bool true)) k else evalK C ann b (s.setT t (.bool false)) k
      | _ => none)
    | .const (.bool x) => if x then evalK C ann a s k else evalK C ann b s k
    | _ => none
  | .block id a, s, k => evalK C ann a s fun e s' => match e with
    | .exit j => (bif Nat.beq j id then k .normal s' else k (.exit j) s')
    | .normal => k .normal s'
    | .ret => k .ret s'
  | .scope a, s, k => evalK C ann a s k
  | .loop a, s, k => match nrm (ann (firstRegion a)) s with
    | some s' => loopK (nrm (ann (firstRegion a))) (evalK C ann a) k (bif (ann (firstRegion a)).cut then 8 else C.N) s'
    | none => none
  | .exit id, s, k => k (.exit id) s
  | .ret, s, k => k .ret s
  | _, _, _ => none

def setArgs : AV → Nat → List (Nat × AV)
  | .cons v r, i => (i, v) :: setArgs r (i + 1)
  | _, _ => []
def SP.len : SP → Nat
  | .cons _ b => b.len + 1
  | _ => 0
def resVal {α : Type} (C : Cx) (r : ResultVar) (k : AV → Pg α) : Pg α := match r with
  | .tmp t => .rdT t k
  | .cell t T => .rdT t fun a => match a with
    | .ref o p => .rdO o fun c => (match AV.at p c with
      | some v => bif loadOk (C.D T) v then k v else .fail
      | none => .fail)
    | _ => .fail
def resVals {α : Type} (C : Cx) : List ResultVar → (List AV → Pg α) → Pg α
  | [], k => k []
  | r :: l, k => resVal C r fun v => resVals C l fun vs => k (v :: vs)
def finPg (C : Cx) (fn : Func) (g : Sig) (v : AV) (fin : g.rs.den × g.ps.odn → g.T) : Pg g.T :=
  resVals C fn.results.toList fun vs => exS g.rs (listAV vs) fun r own ro => exO g.ps v fun o own' ro' =>
    bif nodupN (own ++ own') then .ret (fin (r, o)) else .fail
/-- of the arguments: the pointers alone -/
def skel : AV → AV
  | .cons v r => .cons (match v with | .ref o p => .ref o p | .nilp => .nilp | _ => .top) (skel r)
  | v => v
/-- the arguments' objects are kept through every loop -/
def annP (names : List Nat) (ann : Nat → Ann) (i : Nat) : Ann := { ann i with objs := names ++ (ann i).objs }
/-- at the end of a function -/
def finK (C : Cx) (fn : Func) (g : Sig) (v : AV) (fin : g.rs.den × g.ps.odn → g.T) (e : Ex) (s : St) : Option g.T := match e with
  | .ret => (finPg C fn g v fin).runK s fun y _ => some y
  | .normal => (finPg C fn g v fin).runK s fun y _ => some y
  | .exit _ => none
def evalFn (C : Cx) (ann : Nat → Ann) (fn : Func) (c : Code) (g : Sig) (x : g.ps.den) (fin : g.rs.den × g.ps.odn → g.T) : Option g.T :=
  (inS (α := AV) g.ps x 100000 fun v objs _ => newAll objs (.ret v)).runK ⟨fn.ntmps, [], []⟩ fun v s =>
    evalK C (annP (skel v).names ann) c ⟨fn.ntmps, setArgs v 0, s.ob⟩ (finK C fn g (skel v) fin)

/-- the code at a place: 0 leads to the first part, 1 to the second -/
def cAt : List Nat → Code → Code
  | [], c => c
  | i :: p, .seq a b => if i = 0 then cAt p a else cAt p b
  | i :: p, .cond _ a b => if i = 0 then cAt p a else cAt p b
  | _ :: p, .block _ a => cAt p a
  | _ :: p, .scope a => cAt p a
  | _ :: p, .loop a => cAt p a
  | _, _ => .skip
/-- what comes behind the code at a place; ns: the rounds that are left of the loops around it -/
def kAt {R : Type} (C : Cx) (ann : Nat → Ann) : List Nat → List Nat → Code → (Ex → St → Option R) → Ex → St → Option R
  | [], _, _, k => k
  | i :: p, ns, .seq a b, k => if i = 0 then kAt C ann p ns a (fun e s' => match e with
      | .normal => (match cutS (ann (Nat.add 1000000 (firstRegion b))) s' with | some s'' => evalK C ann b s'' k | none => none)
      | .ret => k .ret s'
      | .exit i => k (.exit i) s') else kAt C ann p ns b k
  | i :: p, ns, .cond _ a b, k => if i = 0 then kAt C ann p ns a k else kAt C ann p ns b k
  | _ :: p, ns, .block id a, k => kAt C ann p ns a fun e s' => match e with
      | .exit j => (bif Nat.beq j id then k .normal s' else k (.exit j) s')
      | .normal => k .normal s'
      | .ret => k .ret s'
  | _ :: p, ns, .scope a, k => kAt C ann p ns a k
  | _ :: p, ns, .loop a, k => match ns with
    | n :: ns => kAt C ann p ns a fun e s' => match e with
      | .normal => (match nrm (ann (firstRegion a)) s' with | some s'' => loopK (nrm (ann (firstRegion a))) (evalK C ann a) k n s'' | none => none)
      | .ret => k .ret s'
      | .exit i => k (.exit i) s'
    | [] => k
  | _, _, _, k => k
/-- the loop at a place, with n rounds left -/
def loopAt {R : Type} (C : Cx) (ann : Nat → Ann) (p ns : List Nat) (c : Code) (k : Ex → St → Option R) (n : Nat) (s : St) : Option R :=
  loopK (nrm (ann (firstRegion (cAt (p ++ [0]) c)))) (evalK C ann (cAt (p ++ [0]) c)) (kAt C ann p ns c k) n s

def TI.none : TI := ⟨.other, 0, 0, .top, Option.none, false⟩
def mkD : List (Nat × TI) → Nat → TI
  | [], _ => TI.none
  | (i, t) :: r, T => bif Nat.beq i T then t else mkD r T
def mkG : List (Nat × Sig) → Nat → Option Sig
  | [], _ => none
  | (i, g) :: r, f => bif Nat.beq i f then some g else mkG r f
def mkA : List (Nat × Ann) → Nat → Ann
  | [], _ => ⟨[], [], [], false, []⟩
  | (i, a) :: r, f => bif Nat.beq i f then a else mkA r f
def codeOf (f : Func) : Code := match f.body with | some c => c | none => .skip

/-- a program of reads and writes whose slots are those of a list -/
def Pg.inF {α β : Type} : Pg α → List (Nat × AV) → Ft → (α → List (Nat × AV) → Ft → Pg β) → Pg β
  | .ret v, tm, f, k => k v tm f
  | .fail, _, _, _ => .fail
  | .rdT t g, tm, f, k => (g (look tm t)).inF tm { f with rt := t :: f.rt } k
  | .rdO o g, tm, f, k => .rdO o fun c => (g c).inF tm { f with ro := o :: f.ro } k
  | .wrO o c p, tm, f, k => .wrO o c (p.inF tm { f with wo := o :: f.wo } k)
  | .new o c p, tm, f, k => .new o c (p.inF tm { f with wo := o :: f.wo } k)
  | .br t p q, tm, f, k => match look tm t with
    | .bool b => .sel b (p.inF ((t, .bool true) :: tm) { f with rt := t :: f.rt } k) (q.inF ((t, .bool false) :: tm) { f with rt := t :: f.rt } k)
    | _ => .fail
  | .test c d p, tm, f, k => .test c d (p.inF tm f k)
  | .bind T m g, tm, f, k => .bind T m fun r => (g r).inF tm f k
  | .opt T m p g, tm, f, k => .opt T m (p.inF tm f k) fun r => (g r).inF tm f k
  | .sel b p q, tm, f, k => .sel b (p.inF tm f k) (q.inF tm f k)

def putI (n : Nat) (o : Oper) (v : AV) (tm : List (Nat × AV)) : Option (List (Nat × AV)) := match o.dst with
  | some d => bif Nat.blt d n then some ((d, v) :: tm) else none
  | none => some tm
def opsI {β : Type} (C : Cx) (n : Nat) (ops : List Oper) (draw : Bool) (ms : List Nat) : List Oper → Nat → List (Nat × AV) → List (Nat × Ft) → (List (Nat × AV) → Pg β) → Pg β
  | [], _, tm, _, k => k tm
  | o :: r, i, tm, acc, k => (guardPg ops o (opPg C o)).inF tm ⟨[], [], o.dst.toList, []⟩ fun v tm' f =>
    bif draw && clashAll ms i f acc then .fail else
    match putI n o v tm' with
    | some tm'' => opsI C n ops draw ms r (i + 1) tm'' ((i, f) :: acc) k
    | none => .fail
def codeI {β : Type} (C : Cx) (n : Nat) : Code → List (Nat × AV) → (Ex → List (Nat × AV) → Pg β) → Pg β
  | .skip, tm, k => k .normal tm
  | .label _, tm, k => k .normal tm
  | .region _ ops draw, tm, k => bif draw && !edgesBack ops.toList 0 then .fail else opsI C n ops.toList draw (bif draw then masks ops.toList [] else []) ops.toList 0 tm [] fun tm' => k .normal tm'
  | .seq a b, tm, k => codeI C n a tm fun e tm' => match e with
    | .normal => codeI C n b tm' k
    | .ret => k .ret tm'
    | .exit i => k (.exit i) tm'
  | .cond c a b, tm, k => match c with
    | .tmp t => (match look tm t with
      | .bool x => .sel x (codeI C n a ((t, .bool true) :: tm) k) (codeI C n b ((t, .bool false) :: tm) k)
      | _ => .fail)
    | .const (.bool x) => .sel x (codeI C n a tm k) (codeI C n b tm k)
    | _ => .fail
  | .block id a, tm, k => codeI C n a tm fun e tm' => match e with
    | .exit j => (bif Nat.beq j id then k .normal tm' else k (.exit j) tm')
    | .normal => k .normal tm'
    | .ret => k .ret tm'
  | .scope a, tm, k => codeI C n a tm k
  | .exit id, tm, k => k (.exit id) tm
  | .ret, tm, k => k .ret tm
  | _, _, _ => .fail
def noTup : List AV → Bool
  | [] => true
  | .tup _ :: _ => false
  | _ :: r => noTup r
def retI (C : Cx) (fn : Func) (tm : List (Nat × AV)) : Pg AV :=
  (resVals C fn.results.toList fun rs => bif noTup rs then .ret (resAV (listAV rs)) else .fail).inF tm ⟨[], [], [], []⟩ fun v _ _ => .ret v
/-- the body of a function with these arguments -/
def inlPg (C : Cx) (fn : Func) (c : Code) (vs : List AV) (nx : Nat) : Pg AV :=
  bif Nat.ble vs.length fn.ntmps then
    codeI { C with b := nx } fn.ntmps c (setArgs (listAV vs) 0) fun e tm => match e with
      | .exit _ => .fail
      | _ => retI { C with b := nx } fn tm
  else .fail
def mkI : List (Nat × (List AV → Nat → Pg AV)) → Nat → Option (List AV → Nat → Pg AV)
  | [], _ => none
  | (i, p) :: r, f => bif Nat.beq i f then some p else mkI r f
def mkM : List (Nat × String × Nat) → Nat → String → Option Nat
  | [], _, _ => none
  | (i, n, f) :: r, T, m => bif Nat.beq i T && decide (n = m) then some f else mkM r T m
end Go.Ev

/- What the evaluator's values say of memory: relations, and how they are kept. -/
set_option linter.unusedVariables false
set_option linter.unusedSimpArgs false
namespace Go.Ev
open Go

structure Loc where
  b : Nat
  off : Nat

def seg (c : Array Value) (i n : Nat) : List Value := (c.toList.drop i).take n

theorem seg_length {c : Array Value} {i n : Nat} (h : i + n ≤ c.size) : (seg c i n).length = n := by
  simp [seg]; omega

/-- cells that hold a plain value; what is behind a slice lies outside F -/
def Pu (w : World) (F : Nat → Prop) : (t : Ty) → t.den → List Value → Prop
  | .int k, x, cs => cs = [.int k x]
  | .bool, x, cs => cs = [.bool x]
  | .str, x, cs => cs = [.string x]
  | .nl, _, cs => cs = []
  | .pair a b, x, cs => Pu w F a x.1 (cs.take a.size) ∧ Pu w F b x.2 (cs.drop a.size)
  | .arr n t, xs, cs => xs.length = n ∧ cs.length = n * t.size ∧ ∀ i, i < n → Pu w F t (xs.getD i t.dflt) ((cs.drop (i * t.size)).take t.size)
  | .sl t, xs, cs => ∃ a cap, cs = [.slice a (List.length xs) cap] ∧ List.length xs ≤ cap ∧ (xs = [] ∨ ∃ b off cells T fr, a = some ⟨b, off, none⟩ ∧ ¬ F b ∧ w.heap[b]? = some (.cells cells T fr) ∧
      off + List.length xs * t.size ≤ cells.size ∧ ∀ i, i < List.length xs → Pu w F t (xs.getD i t.dflt) (seg cells (off + i * t.size) t.size))

theorem Pu.len {w : World} {F : Nat → Prop} : ∀ {t : Ty} {x : t.den} {cs : List Value}, Pu w F t x cs → cs.length = t.size := by
  intro t
  induction t with
  | int k => intro x cs h; simp [Pu] at h; simp [h, Ty.size]
  | bool => intro x cs h; simp [Pu] at h; simp [h, Ty.size]
  | str => intro x cs h; simp [Pu] at h; simp [h, Ty.size]
  | nl => intro x cs h; simp [Pu] at h; simp [h, Ty.size]
  | pair a b iha ihb =>
    intro x cs h
    have h1 := iha h.1
    have h2 := ihb h.2
    simp only [List.length_take, List.length_drop, Ty.size] at *
    omega
  | arr n t ih => intro x cs h; exact h.2.1
  | sl t ih => intro x cs h; obtain ⟨a, cap, rfl, _⟩ := h; rfl

theorem Pu.mono {w w' : World} {F F' : Nat → Prop} (H : ∀ b o, ¬ F b → w.heap[b]? = some o → w'.heap[b]? = some o ∧ ¬ F' b) :
    ∀ {t : Ty} {x : t.den} {cs : List Value}, Pu w F t x cs → Pu w' F' t x cs := by
  intro t
  induction t with
  | int k => intro x cs h; exact h
  | bool => intro x cs h; exact h
  | str => intro x cs h; exact h
  | nl => intro x cs h; exact h
  | pair a b iha ihb => intro x cs h; exact ⟨iha h.1, ihb h.2⟩
  | arr n t ih => intro x cs h; exact ⟨h.1, h.2.1, fun i hi => ih (h.2.2 i hi)⟩
  | sl t ih =>
    intro x cs h
    obtain ⟨a, cap, hc, hl, h⟩ := h
    refine ⟨a, cap, hc, hl, ?_⟩
    rcases h with h | ⟨b, off, cells, T, fr, ha, hF, hb, hs, he⟩
    · exact .inl h
    · obtain ⟨h1, h2⟩ := H b _ hF hb
      exact .inr ⟨b, off, cells, T, fr, ha, h2, h1, hs, fun i hi => ih (he i hi)⟩

structure Env where
  w : World
  s : Nat → Option AV
  ρ : Nat → Option Loc

/-- the blocks of the objects -/
def Env.F (E : Env) (b : Nat) : Prop := ∃ o c l, E.s o = some c ∧ c.sh ≠ .bad ∧ E.ρ o = some l ∧ l.b = b

def AddrOf (E : Env) (o : Nat) (p : List PS) (a : Addr) : Prop :=
  ∃ c, E.s o = some c ∧ (c.sh = .bad ∨ ∃ l k e, E.ρ o = some l ∧ Sh.off p c.sh = some (k, e) ∧ a = ⟨l.b, l.off + k, none⟩)

def PrefOf (E : Env) (t : Ty) (x : t.den) (a : Addr) : Prop :=
  ∃ b off cells T fr, a = ⟨b, off, none⟩ ∧ ¬ E.F b ∧ E.w.heap[b]? = some (.cells cells T fr) ∧ off + t.size ≤ cells.size ∧ Pu E.w E.F t x (seg cells off t.size)

def ViewOf (E : Env) (o : Nat) (p : List PS) (off len : Int) (v : Value) : Prop :=
  ∃ (n : Nat) (a : Option Addr) (cap : Nat), v = .slice a n cap ∧ (n : Int) = len ∧ n ≤ cap ∧ ∃ c, E.s o = some c ∧ (c.sh = .bad ∨
    ∃ k t m, (Sh.off p c.sh = some (k, .arr t m) ∨ Sh.off p c.sh = some (k, .bk t m)) ∧ 0 ≤ off ∧ off + len ≤ m ∧
      (cap = 0 ∨ ∃ l cells T fr, E.ρ o = some l ∧ a = some ⟨l.b, l.off + k + off.toNat * t.size, none⟩ ∧ E.w.heap[l.b]? = some (.cells cells T fr) ∧
        l.off + k + (off.toNat + cap) * t.size ≤ cells.size))

def FullOf (E : Env) (o : Nat) (v : Value) : Prop :=
  ∃ (n : Nat) (a : Option Addr) (cap : Nat), v = .slice a n cap ∧ n ≤ cap ∧ ∃ c, E.s o = some c ∧ (c.sh = .bad ∨
    ∃ t, c.sh = .bk t n ∧ (cap = 0 ∨ ∃ l cells T fr, E.ρ o = some l ∧ a = some ⟨l.b, l.off, none⟩ ∧ E.w.heap[l.b]? = some (.cells cells T fr) ∧ l.off + cap * t.size ≤ cells.size))

/-- cells that hold a content -/
def Ce (E : Env) : AV → List Value → Prop
  | .top, _ => False
  | .int k n, cs => cs = [.int k n]
  | .bool b, cs => cs = [.bool b]
  | .str s, cs => cs = [.string s]
  | .ref o p, cs => ∃ a, cs = [.pointer (some a)] ∧ AddrOf E o p a
  | .nilp, cs => cs = [.pointer none]
  | .pref t x, cs => ∃ a, cs = [.pointer (some a)] ∧ PrefOf E t x a
  | .view o p off len, cs => ∃ v, cs = [v] ∧ ViewOf E o p off len v
  | .full o, cs => ∃ v, cs = [v] ∧ FullOf E o v
  | .lst t xs, cs => Pu E.w E.F (.sl t) xs cs
  | .nils, cs => cs = [.slice none 0 0]
  | .arr t n xs, cs => Pu E.w E.F (.arr n t) xs cs
  | .bk t xs, cs => Pu E.w E.F (.arr xs.length t) xs cs
  | .nl, cs => cs = []
  | .cons h t, cs => Ce E h (cs.take h.sh.size) ∧ Ce E t (cs.drop h.sh.size)
  | .tup _, _ => False
  | .iface T v, cs => ∃ u, cs = [.iface T u] ∧ v.sh = .leaf ∧ Ce E v [u]
  | .nili, cs => cs = [.nilIface]
  | .fn f, cs => cs = [.func (.func f) #[] #[]]
  | .pv o n, cs => ∃ a, cs = [.slice (some a) n n] ∧ AddrOf E o [] a

theorem Ce.len {E : Env} : ∀ {c : AV} {cs : List Value}, Ce E c cs → cs.length = c.sh.size := by
  intro c
  induction c with
  | top => intro cs h; exact h.elim
  | tup c => intro cs h; exact h.elim
  | cons h t ih1 ih2 =>
    intro cs hh
    have h1 := ih1 hh.1
    have h2 := ih2 hh.2
    simp only [List.length_take, List.length_drop, AV.sh, Sh.size] at *
    omega
  | arr t n xs => intro cs h; exact h.2.1
  | bk t xs => intro cs h; exact h.2.1
  | lst t xs => intro cs h; exact Pu.len h
  | ref o p => intro cs h; obtain ⟨a, rfl, _⟩ := h; rfl
  | pref t x => intro cs h; obtain ⟨a, rfl, _⟩ := h; rfl
  | view o p off len => intro cs h; obtain ⟨a, rfl, _⟩ := h; rfl
  | full o => intro cs h; obtain ⟨a, rfl, _⟩ := h; rfl
  | pv o n => intro cs h; obtain ⟨a, rfl, _⟩ := h; rfl
  | iface T v => intro cs h; obtain ⟨a, rfl, _⟩ := h; rfl
  | _ => intro cs h; simp only [Ce] at h; subst h; rfl

/-- one state after another: no part of what is shared has turned; an object is dead, or lies where it lay -/
structure Ext (E E' : Env) : Prop where
  ro : ∀ b o, ¬ E.F b → E.w.heap[b]? = some o → E'.w.heap[b]? = some o ∧ ¬ E'.F b
  ob : ∀ o c, E.s o = some c → ∃ c', E'.s o = some c' ∧ (c'.sh = .bad ∨ (c.sh ≠ .bad ∧ c'.sh = c.sh ∧ E'.ρ o = E.ρ o ∧
    ∀ l cells T fr, E.ρ o = some l → E.w.heap[l.b]? = some (.cells cells T fr) → ∃ cells' fr', E'.w.heap[l.b]? = some (.cells cells' T fr') ∧ cells.size ≤ cells'.size))

theorem Ext.refl (E : Env) : Ext E E := by
  refine ⟨fun b o hF h => ⟨h, hF⟩, fun o c h => ⟨c, h, ?_⟩⟩
  by_cases hb : c.sh = .bad
  · exact .inl hb
  · exact .inr ⟨hb, rfl, rfl, fun l cells T fr _ hh => ⟨cells, fr, hh, Nat.le_refl _⟩⟩

theorem Ext.trans {A B C : Env} (h : Ext A B) (k : Ext B C) : Ext A C := by
  refine ⟨fun b o hF hb => ?_, fun o c hc => ?_⟩
  · obtain ⟨h1, h2⟩ := h.ro b o hF hb
    exact k.ro b o h2 h1
  · obtain ⟨c', hc', h'⟩ := h.ob o c hc
    obtain ⟨c'', hc'', h''⟩ := k.ob o c' hc'
    refine ⟨c'', hc'', ?_⟩
    rcases h'' with h'' | ⟨n1, e1, r1, b1⟩
    · exact .inl h''
    · rcases h' with h' | ⟨n2, e2, r2, b2⟩
      · exact absurd h' n1
      · refine .inr ⟨n2, e1.trans e2, r1.trans r2, fun l cells T fr hl hb => ?_⟩
        obtain ⟨cs', fr', hb', hs'⟩ := b2 l cells T fr hl hb
        obtain ⟨cs'', fr'', hb'', hs''⟩ := b1 l cs' T fr' (r2.trans hl) hb'
        exact ⟨cs'', fr'', hb'', by omega⟩

theorem Ext.pu {E E' : Env} (h : Ext E E') {t : Ty} {x : t.den} {cs : List Value} (k : Pu E.w E.F t x cs) : Pu E'.w E'.F t x cs := k.mono h.ro

theorem Ext.addr {E E' : Env} (h : Ext E E') {o : Nat} {p : List PS} {a : Addr} (k : AddrOf E o p a) : AddrOf E' o p a := by
  obtain ⟨c, hc, hk⟩ := k
  obtain ⟨c', hc', h'⟩ := h.ob o c hc
  refine ⟨c', hc', ?_⟩
  rcases h' with h' | ⟨n2, e2, r2, b2⟩
  · exact .inl h'
  · rcases hk with hk | ⟨l, k, e, hl, ho, ha⟩
    · exact absurd hk n2
    · exact .inr ⟨l, k, e, r2.trans hl, e2 ▸ ho, ha⟩

theorem Ext.view {E E' : Env} (h : Ext E E') {o : Nat} {p : List PS} {off len : Int} {v : Value} (k : ViewOf E o p off len v) : ViewOf E' o p off len v := by
  obtain ⟨n, a, cap, hv, hn, hcap, c, hc, hk⟩ := k
  obtain ⟨c', hc', h'⟩ := h.ob o c hc
  refine ⟨n, a, cap, hv, hn, hcap, c', hc', ?_⟩
  rcases h' with h' | ⟨n2, e2, r2, b2⟩
  · exact .inl h'
  · rcases hk with hk | ⟨k, t, m, hoff, h0, hm, hk⟩
    · exact absurd hk n2
    · refine .inr ⟨k, t, m, e2 ▸ hoff, h0, hm, ?_⟩
      rcases hk with hk | ⟨l, cells, T, fr, hl, ha, hb, hs⟩
      · exact .inl hk
      · obtain ⟨cs', fr', hb', hs'⟩ := b2 l cells T fr hl hb
        exact .inr ⟨l, cs', T, fr', r2.trans hl, ha, hb', by omega⟩

theorem Ext.full {E E' : Env} (h : Ext E E') {o : Nat} {v : Value} (k : FullOf E o v) : FullOf E' o v := by
  obtain ⟨n, a, cap, hv, hcap, c, hc, hk⟩ := k
  obtain ⟨c', hc', h'⟩ := h.ob o c hc
  refine ⟨n, a, cap, hv, hcap, c', hc', ?_⟩
  rcases h' with h' | ⟨n2, e2, r2, b2⟩
  · exact .inl h'
  · rcases hk with hk | ⟨t, hsh, hk⟩
    · exact absurd hk n2
    · refine .inr ⟨t, e2 ▸ hsh, ?_⟩
      rcases hk with hk | ⟨l, cells, T, fr, hl, ha, hb, hs⟩
      · exact .inl hk
      · obtain ⟨cs', fr', hb', hs'⟩ := b2 l cells T fr hl hb
        exact .inr ⟨l, cs', T, fr', r2.trans hl, ha, hb', by omega⟩

theorem Ext.pref {E E' : Env} (h : Ext E E') {t : Ty} {x : t.den} {a : Addr} (k : PrefOf E t x a) : PrefOf E' t x a := by
  obtain ⟨b, off, cells, T, fr, ha, hF, hb, hs, hp⟩ := k
  obtain ⟨h1, h2⟩ := h.ro b _ hF hb
  exact ⟨b, off, cells, T, fr, ha, h2, h1, hs, h.pu hp⟩

theorem Ext.ce {E E' : Env} (h : Ext E E') : ∀ {c : AV} {cs : List Value}, Ce E c cs → Ce E' c cs := by
  intro c
  induction c with
  | ref o p => intro cs k; obtain ⟨a, hc, k⟩ := k; exact ⟨a, hc, h.addr k⟩
  | pref t x => intro cs k; obtain ⟨a, hc, k⟩ := k; exact ⟨a, hc, h.pref k⟩
  | view o p off len => intro cs k; obtain ⟨v, hc, k⟩ := k; exact ⟨v, hc, h.view k⟩
  | full o => intro cs k; obtain ⟨v, hc, k⟩ := k; exact ⟨v, hc, h.full k⟩
  | pv o n => intro cs k; obtain ⟨a, hc, k⟩ := k; exact ⟨a, hc, h.addr k⟩
  | lst t xs => intro cs k; exact Ext.pu (t := .sl t) h k
  | arr t n xs => intro cs k; exact Ext.pu (t := .arr n t) h k
  | bk t xs => intro cs k; exact Ext.pu (t := .arr xs.length t) h k
  | cons a b iha ihb => intro cs k; exact ⟨iha k.1, ihb k.2⟩
  | iface T v ih => intro cs k; obtain ⟨u, hc, hs, k⟩ := k; exact ⟨u, hc, hs, ih k⟩
  | _ => intro cs k; exact k

def Val1 (E : Env) (v : AV) (u : Value) : Prop :=
  v = .top ∨ (v.agg = true ∧ ∃ cs, u = .agg cs.toArray ∧ Ce E v cs) ∨ (v.agg = false ∧ v.sh = .leaf ∧ Ce E v [u])
def ValT (E : Env) : AV → List Value → Prop
  | .nl, us => us = []
  | .cons h t, us => ∃ u r, us = u :: r ∧ Val1 E h u ∧ ValT E t r
  | _, _ => False
def Val (E : Env) (v : AV) (u : Value) : Prop := Val1 E v u ∨ ∃ c us, v = .tup c ∧ u = .tuple us ∧ ValT E c us.toList

theorem Ext.val1 {E E' : Env} (h : Ext E E') {v : AV} {u : Value} (k : Val1 E v u) : Val1 E' v u := by
  rcases k with k | ⟨k1, cs, k2, k3⟩ | ⟨k1, k2, k3⟩
  · exact .inl k
  · exact .inr (.inl ⟨k1, cs, k2, h.ce k3⟩)
  · exact .inr (.inr ⟨k1, k2, h.ce k3⟩)
theorem Ext.valT {E E' : Env} (h : Ext E E') : ∀ {c : AV} {us : List Value}, ValT E c us → ValT E' c us := by
  intro c
  induction c with
  | cons a b iha ihb => intro us k; obtain ⟨u, r, hu, k1, k2⟩ := k; exact ⟨u, r, hu, h.val1 k1, ihb k2⟩
  | nl => intro us k; exact k
  | _ => intro us k; exact k.elim
theorem Ext.val {E E' : Env} (h : Ext E E') {v : AV} {u : Value} (k : Val E v u) : Val E' v u := by
  rcases k with k | ⟨c, us, k1, k2, k3⟩
  · exact .inl (h.val1 k)
  · exact .inr ⟨c, us, k1, k2, h.valT k3⟩

theorem Val.top {E : Env} (u : Value) : Val E .top u := .inl (.inl rfl)
theorem Val.leaf {E : Env} {v : AV} {u : Value} (hs : v.sh = .leaf) (h : Ce E v [u]) : Val E v u := by
  refine .inl (.inr (.inr ⟨?_, hs, h⟩))
  cases v <;> simp_all [AV.sh, AV.agg]
theorem Val.ce {E : Env} {v : AV} {u : Value} (h : Val E v u) (hs : v.sh = .leaf) : Ce E v [u] := by
  rcases h with (h | ⟨h, _⟩ | ⟨_, _, h⟩) | ⟨c, us, h, _⟩
  · subst h; simp [AV.sh] at hs
  · cases v <;> simp_all [AV.sh, AV.agg]
  · exact h
  · subst h; simp [AV.sh] at hs
/-- a value that is no tuple and is known: its cells -/
theorem Val.cells {E : Env} {v : AV} {u : Value} (h : Val E v u) (hs : v.sh ≠ .bad) (hb : ∀ t xs, v ≠ .bk t xs) : Ce E v u.cells.toList ∧ (v.agg = true → ∃ cs, u = .agg cs) := by
  rcases h with (h | ⟨h1, cs, h2, h3⟩ | ⟨h1, h2, h3⟩) | ⟨c, us, h, _⟩
  · subst h; simp [AV.sh] at hs
  · subst h2; exact ⟨by simpa [Value.cells] using h3, fun _ => ⟨_, rfl⟩⟩
  · refine ⟨?_, fun e => by simp [h1] at e⟩
    have : u.cells.toList = [u] := by
      cases u with
      | agg cs =>
        exfalso
        cases v <;> simp [AV.sh] at h2 <;> simp [Ce] at h3
        all_goals first | (obtain ⟨n, a, cap, h, _⟩ := h3; simp at h) | simp [Pu] at h3
      | _ => rfl
    rw [this]; exact h3
  · subst h; simp [AV.sh] at hs

#print axioms Val.cells
end Go.Ev

/- Parts of contents: where they lie, what they hold, what becomes of the whole when one is replaced. -/
set_option linter.unusedVariables false
set_option linter.unusedSimpArgs false
namespace Go.Ev
open Go

theorem shT_size : ∀ t : Ty, (shT t).size = t.size := by
  intro t
  induction t <;> simp_all [shT, Sh.size, Ty.size]
theorem toAV_sh : ∀ (t : Ty) (x : t.den), (toAV t x).sh = shT t := by
  intro t
  induction t with
  | pair a b iha ihb => intro x; simp [toAV, AV.sh, shT, iha, ihb]
  | _ => intro x; rfl
theorem toAV_size (t : Ty) (x : t.den) : (toAV t x).sh.size = t.size := by rw [toAV_sh, shT_size]

theorem ce_toAV {E : Env} : ∀ {t : Ty} {x : t.den} {cs : List Value}, Pu E.w E.F t x cs → Ce E (toAV t x) cs := by
  intro t
  induction t with
  | pair a b iha ihb =>
    intro x cs h
    refine ⟨?_, ?_⟩
    · rw [toAV_size]; exact iha h.1
    · rw [toAV_size]; exact ihb h.2
  | _ => intro x cs h; exact h

theorem castL_some {t u : Ty} {xs : List t.den} {ys : List u.den} (h : castL (u := u) xs = some ys) : ∃ e : t = u, e ▸ xs = ys := by
  unfold castL at h
  split at h
  · rename_i e; exact ⟨e, by simpa using h⟩
  · cases h

theorem pu_ofAV {E : Env} : ∀ {t : Ty} {v : AV} {x : t.den} {cs : List Value}, ofAV t v = some x → Ce E v cs → Pu E.w E.F t x cs ∧ v.sh = shT t := by
  intro t
  induction t with
  | int k =>
    intro v x cs h hc
    cases v <;> simp [ofAV] at h
    obtain ⟨rfl, rfl⟩ := h
    exact ⟨hc, rfl⟩
  | bool =>
    intro v x cs h hc
    cases v <;> simp [ofAV] at h
    subst h
    exact ⟨hc, rfl⟩
  | str =>
    intro v x cs h hc
    cases v <;> simp [ofAV] at h
    subst h
    exact ⟨hc, rfl⟩
  | nl =>
    intro v x cs h hc
    cases v <;> simp [ofAV] at h
    exact ⟨hc, rfl⟩
  | pair a b iha ihb =>
    intro v x cs h hc
    cases v with
    | cons u r =>
      simp only [ofAV] at h
      split at h
      · rename_i y hy
        split at h
        · rename_i z hz
          simp only [Option.some.injEq] at h
          subst h
          obtain ⟨p1, s1⟩ := iha hy hc.1
          obtain ⟨p2, s2⟩ := ihb hz hc.2
          rw [s1, shT_size] at p1 p2
          exact ⟨⟨p1, p2⟩, by simp [AV.sh, shT, s1, s2]⟩
        · cases h
      · cases h
    | _ => simp [ofAV] at h
  | arr n t ih =>
    intro v x cs h hc
    cases v with
    | arr t' n' xs =>
      simp only [ofAV] at h
      split at h
      · rename_i e
        obtain ⟨rfl, h⟩ := castL_some h
        subst h
        subst e
        exact ⟨hc, rfl⟩
      · cases h
    | _ => simp [ofAV] at h
  | sl t ih =>
    intro v x cs h hc
    cases v with
    | lst t' xs =>
      simp only [ofAV] at h
      obtain ⟨rfl, h⟩ := castL_some h
      subst h
      exact ⟨hc, rfl⟩
    | nils =>
      simp only [ofAV, Option.some.injEq] at h
      subst h
      simp only [Ce] at hc
      subst hc
      exact ⟨⟨none, 0, rfl, by simp, .inl rfl⟩, rfl⟩
    | _ => simp [ofAV] at h

theorem nth_sh : ∀ {c : AV} {i : Nat} {d : AV}, c.nth i = some d → ∃ k, c.sh.nth i = some (k, d.sh) := by
  intro c
  induction c with
  | cons h t ih1 ih2 =>
    intro i d hd
    cases i with
    | zero => simp only [AV.nth, Option.some.injEq] at hd; subst hd; exact ⟨0, rfl⟩
    | succ i =>
      simp only [AV.nth] at hd
      obtain ⟨k, hk⟩ := ih2 hd
      exact ⟨h.sh.size + k, by simp [AV.sh, Sh.nth, hk]⟩
  | _ => intro i d hd; simp [AV.nth] at hd
theorem sh_nth_le : ∀ {s : Sh} {i k : Nat} {e : Sh}, s.nth i = some (k, e) → k + e.size ≤ s.size := by
  intro s
  induction s with
  | cons a b iha ihb =>
    intro i k e h
    cases i with
    | zero => simp [Sh.nth] at h; obtain ⟨rfl, rfl⟩ := h; simp [Sh.size]
    | succ i =>
      simp only [Sh.nth] at h
      split at h
      · rename_i k' s' hk
        simp at h
        obtain ⟨rfl, rfl⟩ := h
        have := ihb hk
        simp only [Sh.size]; omega
      · cases h
  | _ => intro i k e h; simp [Sh.nth] at h
theorem ce_nth {E : Env} : ∀ {c : AV} {i : Nat} {d : AV} {k : Nat} {cs : List Value}, c.nth i = some d → c.sh.nth i = some (k, d.sh) → Ce E c cs → Ce E d ((cs.drop k).take d.sh.size) := by
  intro c
  induction c with
  | cons h t ih1 ih2 =>
    intro i d k cs hd hk hc
    cases i with
    | zero =>
      simp only [AV.nth, Option.some.injEq] at hd; subst hd
      simp [AV.sh, Sh.nth] at hk; subst hk
      simpa using hc.1
    | succ i =>
      simp only [AV.nth] at hd
      simp only [AV.sh, Sh.nth] at hk
      split at hk
      · rename_i k' s' hk'
        simp at hk
        obtain ⟨rfl, rfl⟩ := hk
        have := ih2 hd hk' hc.2
        rwa [List.drop_drop] at this
      · cases hk
  | _ => intro i d k cs hd; simp [AV.nth] at hd

/-- the part at a path lies where the skeleton says -/
theorem at_off : ∀ {p : List PS} {c d : AV} {k : Nat} {e : Sh}, AV.at p c = some d → Sh.off p c.sh = some (k, e) → d.sh = e := by
  intro p
  induction p with
  | nil => intro c d k e h1 h2; simp [AV.at] at h1; simp [Sh.off] at h2; rw [← h1]; exact h2.2
  | cons a p ih =>
    intro c d k e h1 h2
    cases a with
    | fld i =>
      simp only [AV.at] at h1
      split at h1
      · rename_i d' hd'
        obtain ⟨k', hk'⟩ := nth_sh hd'
        simp only [Sh.off, hk'] at h2
        split at h2
        · rename_i j e' hj
          simp at h2
          exact (ih h1 hj).trans h2.2
        · cases h2
      · cases h1
    | idx i =>
      cases c with
      | arr t n xs =>
        simp only [AV.at] at h1
        simp only [AV.sh, Sh.off] at h2
        split at h2
        · split at h2
          · rename_i j e' hj
            simp at h2
            rw [← toAV_sh t (rd t xs i)] at hj
            exact (ih h1 hj).trans h2.2
          · cases h2
        · cases h2
      | bk t xs =>
        simp only [AV.at] at h1
        simp only [AV.sh, Sh.off] at h2
        split at h2
        · split at h2
          · rename_i j e' hj
            simp at h2
            rw [← toAV_sh t (rd t xs i)] at hj
            exact (ih h1 hj).trans h2.2
          · cases h2
        · cases h2
      | _ => simp [AV.at] at h1

theorem off_le : ∀ {p : List PS} {s : Sh} {k : Nat} {e : Sh}, Sh.off p s = some (k, e) → k + e.size ≤ s.size := by
  intro p
  induction p with
  | nil => intro s k e h; simp [Sh.off] at h; obtain ⟨rfl, rfl⟩ := h; simp
  | cons a p ih =>
    intro s k e h
    cases a with
    | fld i =>
      simp only [Sh.off] at h
      split at h
      · rename_i k' d hk'
        split at h
        · rename_i j e' hj
          simp at h
          obtain ⟨rfl, rfl⟩ := h
          have h1 := sh_nth_le hk'
          have h2 := ih hj
          omega
        · cases h
      · cases h
    | idx i =>
      have key : ∀ (t : Ty) (n : Nat), (if 0 ≤ i ∧ i < (n : Int) then (match Sh.off p (shT t) with | some (j, e) => some (i.toNat * t.size + j, e) | none => none) else none) = some (k, e) → k + e.size ≤ n * t.size := by
        intro t n h
        split at h
        · rename_i hi
          split at h
          · rename_i j e' hj
            simp at h
            obtain ⟨rfl, rfl⟩ := h
            have h2 := ih hj
            rw [shT_size] at h2
            have : (i.toNat + 1) * t.size ≤ n * t.size := Nat.mul_le_mul_right _ (by omega)
            rw [Nat.add_mul, Nat.one_mul] at this
            omega
          · cases h
        · cases h
      cases s with
      | arr t n => exact key t n h
      | bk t n => exact key t n h
      | _ => simp [Sh.off] at h

theorem drop_take_drop_take {α : Type} (cs : List α) (a n b m : Nat) (h : b + m ≤ n) : ((((cs.drop a).take n).drop b).take m) = (cs.drop (a + b)).take m := by
  rw [List.drop_take, List.take_take, List.drop_drop]
  congr 1
  omega

theorem ce_at {E : Env} : ∀ {p : List PS} {c d : AV} {k : Nat} {e : Sh} {cs : List Value}, AV.at p c = some d → Sh.off p c.sh = some (k, e) → Ce E c cs → Ce E d ((cs.drop k).take e.size) := by
  intro p
  induction p with
  | nil =>
    intro c d k e cs h1 h2 hc
    simp [AV.at] at h1; subst h1
    simp [Sh.off] at h2
    obtain ⟨rfl, rfl⟩ := h2
    rw [List.drop_zero, List.take_of_length_le (Nat.le_of_eq hc.len)]
    exact hc
  | cons a p ih =>
    intro c d k e cs h1 h2 hc
    cases a with
    | fld i =>
      simp only [AV.at] at h1
      split at h1
      · rename_i d' hd'
        obtain ⟨k', hk'⟩ := nth_sh hd'
        simp only [Sh.off, hk'] at h2
        split at h2
        · rename_i j e' hj
          simp at h2
          obtain ⟨rfl, rfl⟩ := h2
          have := ih h1 hj (ce_nth hd' hk' hc)
          rwa [drop_take_drop_take _ _ _ _ _ (off_le hj)] at this
        · cases h2
      · cases h1
    | idx i =>
      have key : ∀ (t : Ty) (n : Nat) (xs : List t.den), AV.at p (toAV t (rd t xs i)) = some d → Pu E.w E.F (.arr n t) xs cs →
          (if 0 ≤ i ∧ i < (n : Int) then (match Sh.off p (shT t) with | some (j, e) => some (i.toNat * t.size + j, e) | none => none) else none) = some (k, e) → Ce E d ((cs.drop k).take e.size) := by
        intro t n xs h1 hc h2
        split at h2
        · rename_i hi
          split at h2
          · rename_i j e' hj
            simp at h2
            obtain ⟨rfl, rfl⟩ := h2
            rw [← toAV_sh t (rd t xs i)] at hj
            have := ih h1 hj (ce_toAV (hc.2.2 i.toNat (by omega)))
            have hle := off_le hj
            rw [toAV_size] at hle
            rwa [drop_take_drop_take _ _ _ _ _ hle] at this
          · cases h2
        · cases h2
      cases c with
      | arr t n xs => exact key t n xs h1 hc h2
      | bk t xs => exact key t xs.length xs h1 hc h2
      | _ => simp [AV.at] at h1

def spl (cs : List Value) (k : Nat) (vs : List Value) : List Value := cs.take k ++ vs ++ cs.drop (k + vs.length)
theorem spl_length {cs vs : List Value} {k : Nat} (h : k + vs.length ≤ cs.length) : (spl cs k vs).length = cs.length := by
  simp [spl]; omega

theorem setNth_sh : ∀ {c : AV} {i : Nat} {d d' c' : AV}, c.nth i = some d → d'.sh = d.sh → c.setNth i d' = some c' → c'.sh = c.sh := by
  intro c
  induction c with
  | cons h t ih1 ih2 =>
    intro i d d' c' hd hs hc
    cases i with
    | zero => simp [AV.nth] at hd; simp [AV.setNth] at hc; subst hd; subst hc; simp [AV.sh, hs]
    | succ i =>
      simp only [AV.nth] at hd
      simp only [AV.setNth] at hc
      split at hc
      · rename_i t' ht'
        simp at hc; subst hc
        simp [AV.sh, ih2 hd hs ht']
      · cases hc
  | _ => intro i d d' c' hd; simp [AV.nth] at hd

theorem spl_get {cs vs : List Value} {k : Nat} (h : k + vs.length ≤ cs.length) (i : Nat) :
    (spl cs k vs)[i]? = if i < k then cs[i]? else if i < k + vs.length then vs[i - k]? else cs[i]? := by
  unfold spl
  rw [List.append_assoc, List.getElem?_append, List.length_take, Nat.min_eq_left (by omega)]
  split
  · rw [List.getElem?_take, if_pos (by assumption)]
  · rw [List.getElem?_append]
    by_cases h2 : i < k + vs.length
    · rw [if_pos (by omega), if_pos h2]
    · rw [if_neg (by omega), if_neg h2, List.getElem?_drop]
      congr 1; omega
theorem seg_spl_other {cs vs : List Value} {K a n : Nat} (h : K + vs.length ≤ cs.length) (ho : a + n ≤ K ∨ K + vs.length ≤ a) :
    ((spl cs K vs).drop a).take n = (cs.drop a).take n := by
  apply List.ext_getElem?
  intro i
  simp only [List.getElem?_take, List.getElem?_drop, spl_get h]
  split
  · split
    · rfl
    · rw [if_neg (by omega)]
  · rfl
theorem seg_spl_in {cs vs : List Value} {K a n : Nat} (h1 : a ≤ K) (h2 : K + vs.length ≤ a + n) (h : a + n ≤ cs.length) :
    ((spl cs K vs).drop a).take n = spl ((cs.drop a).take n) (K - a) vs := by
  apply List.ext_getElem?
  intro i
  rw [spl_get (by simp only [List.length_take, List.length_drop]; omega)]
  simp only [List.getElem?_take, List.getElem?_drop, spl_get (show K + vs.length ≤ cs.length by omega)]
  have e1 : (i < K - a) ↔ (a + i < K) := by omega
  have e2 : (i < K - a + vs.length) ↔ (a + i < K + vs.length) := by omega
  have e3 : i - (K - a) = a + i - K := by omega
  simp only [e1, e2, e3]
  by_cases c1 : i < n
  · simp only [if_pos c1]
  · have c2 : ¬ a + i < K := by omega
    have c3 : ¬ a + i < K + vs.length := by omega
    simp only [if_neg c1, if_neg c2, if_neg c3]
theorem take_spl_in {cs vs : List Value} {K n : Nat} (h2 : K + vs.length ≤ n) (h : n ≤ cs.length) : (spl cs K vs).take n = spl (cs.take n) K vs := by
  have := seg_spl_in (cs := cs) (vs := vs) (K := K) (a := 0) (n := n) (by omega) (by omega) (by omega)
  simpa using this
theorem take_spl_out {cs vs : List Value} {K n : Nat} (hk : K + vs.length ≤ cs.length) (h : n ≤ K) : (spl cs K vs).take n = cs.take n := by
  have := seg_spl_other (cs := cs) (vs := vs) (K := K) (a := 0) (n := n) hk (by omega)
  simpa using this
theorem drop_spl_in {cs vs : List Value} {K n : Nat} (hk : K + vs.length ≤ cs.length) (h : n ≤ K) : (spl cs K vs).drop n = spl (cs.drop n) (K - n) vs := by
  have := seg_spl_in (cs := cs) (vs := vs) (K := K) (a := n) (n := cs.length - n) h (by omega) (by omega)
  rwa [List.take_of_length_le (by simp [spl_length hk]), List.take_of_length_le (by simp)] at this
theorem drop_spl_out {cs vs : List Value} {K n : Nat} (hk : K + vs.length ≤ cs.length) (h : K + vs.length ≤ n) : (spl cs K vs).drop n = cs.drop n := by
  have := seg_spl_other (cs := cs) (vs := vs) (K := K) (a := n) (n := cs.length - n) hk (by omega)
  rwa [List.take_of_length_le (by simp [spl_length hk]), List.take_of_length_le (by simp)] at this

theorem ce_setNth {E : Env} : ∀ {c : AV} {i : Nat} {d d' c' : AV} {k : Nat} {cs : List Value} {j : Nat} {vs : List Value}, c.nth i = some d → c.sh.nth i = some (k, d.sh) → d'.sh = d.sh → c.setNth i d' = some c' → Ce E c cs →
    j + vs.length ≤ d.sh.size → Ce E d' (spl ((cs.drop k).take d.sh.size) j vs) → Ce E c' (spl cs (k + j) vs) := by
  intro c
  induction c with
  | cons h t ih1 ih2 =>
    intro i d d' c' k cs j vs hd hk hs hc' hc hj hd'
    have hlen := Ce.len hc
    simp only [AV.sh, Sh.size] at hlen
    cases i with
    | zero =>
      simp only [AV.nth, Option.some.injEq] at hd; subst hd
      simp [AV.sh, Sh.nth] at hk; subst hk
      simp [AV.setNth] at hc'; subst hc'
      refine ⟨?_, ?_⟩
      · rw [hs, Nat.zero_add, take_spl_in hj (by omega)]
        simpa using hd'
      · rw [hs, Nat.zero_add, drop_spl_out (by omega) hj]
        exact hc.2
    | succ i =>
      simp only [AV.nth] at hd
      simp only [AV.sh, Sh.nth] at hk
      simp only [AV.setNth] at hc'
      split at hk
      · rename_i k' s' hk'
        simp at hk
        obtain ⟨rfl, rfl⟩ := hk
        split at hc'
        · rename_i t' ht'
          simp at hc'; subst hc'
          have hle := sh_nth_le hk'
          refine ⟨?_, ?_⟩
          · rw [take_spl_out (by omega) (by omega)]; exact hc.1
          · rw [drop_spl_in (by omega) (by omega)]
            have := ih2 (j := j) (vs := vs) hd hk' hs ht' hc.2 hj (by rwa [List.drop_drop])
            rwa [show h.sh.size + k' + j - h.sh.size = k' + j by omega]
        · cases hc'
      · cases hk
  | _ => intro i d d' c' k cs j vs hd; simp [AV.nth] at hd

theorem put_sh : ∀ {p : List PS} {c v c' : AV}, AV.put p c v = some c' → c'.sh = c.sh := by
  intro p
  induction p with
  | nil => intro c v c' h; simp only [AV.put] at h; split at h <;> simp_all
  | cons a p ih =>
    intro c v c' h
    cases a with
    | fld i =>
      simp only [AV.put] at h
      split at h
      · rename_i d hd
        split at h
        · rename_i d' hd'
          exact setNth_sh hd (ih hd') h
        · cases h
      · cases h
    | idx i =>
      cases c with
      | arr t n xs =>
        simp only [AV.put] at h
        split at h
        · split at h
          · simp at h; subst h; rfl
          · cases h
        · cases h
      | bk t xs =>
        simp only [AV.put] at h
        split at h
        · split at h
          · simp at h; subst h; simp [AV.sh]
          · cases h
        · cases h
      | _ => simp [AV.put] at h

theorem pu_set {w : World} {F : Nat → Prop} {t : Ty} {n : Nat} {xs : List t.den} {cs : List Value} (h : Pu w F (.arr n t) xs cs) {i : Nat} (hi : i < n) {x : t.den} {j : Nat} {vs : List Value}
    (hj : j + vs.length ≤ t.size) (hx : Pu w F t x (spl ((cs.drop (i * t.size)).take t.size) j vs)) : Pu w F (.arr n t) (xs.set i x) (spl cs (i * t.size + j) vs) := by
  obtain ⟨h1, h2, h3⟩ := h
  have hfit : i * t.size + t.size ≤ cs.length := by
    rw [h2]
    have : (i + 1) * t.size ≤ n * t.size := Nat.mul_le_mul_right _ hi
    rwa [Nat.add_mul, Nat.one_mul] at this
  refine ⟨?_, ?_, fun m hm => ?_⟩
  · simpa using h1
  · rw [spl_length (by omega)]; exact h2
  · by_cases e : m = i
    · subst e
      rw [seg_spl_in (by omega) (by omega) hfit, show m * t.size + j - m * t.size = j by omega]
      rw [show (xs.set m x).getD m t.dflt = x by simp [List.getD, h1, hm]]
      exact hx
    · have hd : m * t.size + t.size ≤ i * t.size + j ∨ i * t.size + j + vs.length ≤ m * t.size := by
        rcases Nat.lt_or_gt_of_ne e with h | h
        · left
          have : (m + 1) * t.size ≤ i * t.size := Nat.mul_le_mul_right _ h
          rw [Nat.add_mul, Nat.one_mul] at this; omega
        · right
          have : (i + 1) * t.size ≤ m * t.size := Nat.mul_le_mul_right _ h
          rw [Nat.add_mul, Nat.one_mul] at this; omega
      rw [seg_spl_other (by omega) hd]
      rw [show (xs.set i x).getD m t.dflt = xs.getD m t.dflt by simp [List.getD, List.getElem?_set, Ne.symm e]]
      exact h3 m hm

theorem ce_put {E : Env} : ∀ {p : List PS} {c v c' : AV} {k : Nat} {e : Sh} {cs vs : List Value}, AV.put p c v = some c' → Sh.off p c.sh = some (k, e) → Ce E c cs → Ce E v vs → Ce E c' (spl cs k vs) ∧ vs.length = e.size := by
  intro p
  induction p with
  | nil =>
    intro c v c' k e cs vs h ho hc hv
    simp only [AV.put] at h
    split at h
    · rename_i hs
      simp at h; subst h
      simp [Sh.off] at ho
      obtain ⟨rfl, rfl⟩ := ho
      have l1 := hc.len
      have l2 := hv.len
      rw [hs] at l2
      refine ⟨?_, l2⟩
      have : spl cs 0 vs = vs := by
        unfold spl
        rw [List.take_zero, List.nil_append, List.drop_of_length_le (by omega), List.append_nil]
      rw [this]; exact hv
    · cases h
  | cons a p ih =>
    intro c v c' k e cs vs h ho hc hv
    cases a with
    | fld i =>
      simp only [AV.put] at h
      split at h
      · rename_i d hd
        split at h
        · rename_i d' hd'
          obtain ⟨k', hk'⟩ := nth_sh hd
          simp only [Sh.off, hk'] at ho
          split at ho
          · rename_i j e' hj
            simp at ho
            obtain ⟨rfl, rfl⟩ := ho
            obtain ⟨h1, h2⟩ := ih hd' hj (ce_nth hd hk' hc) hv
            have hle := off_le hj
            exact ⟨ce_setNth hd hk' (put_sh hd') h hc (by omega) h1, h2⟩
          · cases ho
        · cases h
      · cases h
    | idx i =>
      have key : ∀ (t : Ty) (n : Nat) (xs : List t.den) (d : AV) (x : t.den), AV.put p (toAV t (rd t xs i)) v = some d → ofAV t d = some x → Pu E.w E.F (.arr n t) xs cs →
          (if 0 ≤ i ∧ i < (n : Int) then (match Sh.off p (shT t) with | some (j, e) => some (i.toNat * t.size + j, e) | none => none) else none) = some (k, e) →
          Pu E.w E.F (.arr n t) (xs.set i.toNat x) (spl cs k vs) ∧ vs.length = e.size := by
        intro t n xs d x h1 h2 hc ho
        split at ho
        · rename_i hi
          split at ho
          · rename_i j e' hj
            simp at ho
            obtain ⟨rfl, rfl⟩ := ho
            rw [← toAV_sh t (rd t xs i)] at hj
            obtain ⟨h3, h4⟩ := ih h1 hj (ce_toAV (hc.2.2 i.toNat (by omega))) hv
            have hle := off_le hj
            rw [toAV_size] at hle
            exact ⟨pu_set hc (by omega) (by omega) (pu_ofAV h2 h3).1, h4⟩
          · cases ho
        · cases ho
      cases c with
      | arr t n xs =>
        simp only [AV.put] at h
        split at h
        · rename_i d hd
          split at h
          · rename_i x hx
            simp at h; subst h
            exact key t n xs d x hd hx hc ho
          · cases h
        · cases h
      | bk t xs =>
        simp only [AV.put] at h
        split at h
        · rename_i d hd
          split at h
          · rename_i x hx
            simp at h; subst h
            have := key t xs.length xs d x hd hx hc ho
            refine ⟨?_, this.2⟩
            show Pu _ _ (.arr (xs.set i.toNat x).length t) _ _
            rw [List.length_set]
            exact this.1
          · cases h
        · cases h
      | _ => simp [AV.put] at h
#print axioms ce_put
end Go.Ev

/- A state of the evaluator holds of a frame and a world; what keeps this. -/
set_option linter.unusedVariables false
set_option linter.unusedSimpArgs false
namespace Go.Ev
open Go

theorem hp_old (w : World) (o : Obj) (i : Nat) (h : i < w.heap.size) : (w.alloc o).heap[i]? = w.heap[i]? := by
  show (w.heap.push o)[i]? = w.heap[i]?
  rw [Array.getElem?_push, if_neg (Nat.ne_of_lt h)]
theorem hp_new (w : World) (o : Obj) : (w.alloc o).heap[w.heap.size]? = some o := by
  show (w.heap.push o)[w.heap.size]? = some o
  simp
theorem look_cons (j : Nat) (v : AV) (r : List (Nat × AV)) (i : Nat) : look ((j, v) :: r) i = if j = i then v else look r i := by
  simp only [look]
  by_cases h : j = i
  · simp [h]
  · have : Nat.beq j i = false := by rw [Bool.eq_false_iff]; intro e; exact h (Nat.eq_of_beq_eq_true e)
    simp [h, this]
theorem look?_cons (j : Nat) (v : AV) (r : List (Nat × AV)) (i : Nat) : look? ((j, v) :: r) i = if j = i then some v else look? r i := by
  simp only [look?]
  by_cases h : j = i
  · simp [h]
  · have : Nat.beq j i = false := by rw [Bool.eq_false_iff]; intro e; exact h (Nat.eq_of_beq_eq_true e)
    simp [h, this]
theorem St.setT_t (s : St) (d : Nat) (v : AV) (i : Nat) : (s.setT d v).t i = if d = i then v else s.t i := look_cons _ _ _ _
theorem St.setO_o (s : St) (d : Nat) (v : AV) (i : Nat) : (s.setO d v).o i = if d = i then some v else s.o i := look?_cons _ _ _ _
@[simp] theorem St.setT_o (s : St) (d : Nat) (v : AV) : (s.setT d v).o = s.o := rfl
@[simp] theorem St.setO_t (s : St) (d : Nat) (v : AV) : (s.setO d v).t = s.t := rfl
@[simp] theorem St.setT_n (s : St) (d : Nat) (v : AV) : (s.setT d v).n = s.n := rfl
@[simp] theorem St.setO_n (s : St) (d : Nat) (v : AV) : (s.setO d v).n = s.n := rfl

/-- what was there when the function began, but for the blocks F0, is as it was -/
structure Fr (W0 : World) (F0 : Nat → Prop) (w : World) : Prop where
  os : w.os = W0.os
  tape : w.tape = W0.tape
  output : w.output = W0.output
  size : W0.heap.size ≤ w.heap.size
  block : ∀ b, b < W0.heap.size → ¬ F0 b → w.heap[b]? = W0.heap[b]?
  keep : ∀ (b : Nat) (cells : Array Value) (T : TypeId) (fr : Nat × Nat), W0.heap[b]? = some (Obj.cells cells T fr) → ∃ (cells' : Array Value) (fr' : Nat × Nat), w.heap[b]? = some (Obj.cells cells' T fr') ∧ cells.size ≤ cells'.size

theorem Fr.refl (W : World) (F : Nat → Prop) : Fr W F W := ⟨rfl, rfl, rfl, Nat.le_refl _, fun _ _ _ => rfl, fun b cells T fr h => ⟨cells, fr, h, Nat.le_refl _⟩⟩

theorem keep_setRow {w : World} {b : Nat} {cells cells' : Array Value} {T : TypeId} {fr : Nat × Nat} (hb : w.heap[b]? = some (.cells cells T fr)) (hz : cells.size = cells'.size) {W0 : World}
    (h : ∀ (b : Nat) (cells : Array Value) (T : TypeId) (fr : Nat × Nat), W0.heap[b]? = some (Obj.cells cells T fr) → ∃ (cells' : Array Value) (fr' : Nat × Nat), w.heap[b]? = some (Obj.cells cells' T fr') ∧ cells.size ≤ cells'.size) :
    ∀ (q : Nat) (cl : Array Value) (T : TypeId) (fr : Nat × Nat), W0.heap[q]? = some (Obj.cells cl T fr) → ∃ (cl' : Array Value) (fr' : Nat × Nat), (w.setRow b cells').heap[q]? = some (Obj.cells cl' T fr') ∧ cl.size ≤ cl'.size := by
  intro q cl T' fr' hq
  obtain ⟨c1, f1, h1, h2⟩ := h q cl T' fr' hq
  by_cases e : q = b
  · subst e
    rw [hb] at h1
    cases h1
    exact ⟨cells', fr, setRow_heap w q cells cells' T fr hb, by omega⟩
  · exact ⟨c1, f1, by rw [setRow_other w b q cells' e]; exact h1, h2⟩

def Unfrozen (fr : Nat × Nat) (lo hi : Nat) : Prop := ∀ i, lo ≤ i → i < hi → ¬ (fr.1 ≤ i ∧ i < fr.2)

def ObOK (E : Env) (o : Nat) (c : AV) : Prop :=
  (∃ l cells T fr cs, E.ρ o = some l ∧ E.w.heap[l.b]? = some (.cells cells T fr) ∧ Ce E c cs ∧ l.off + cs.length ≤ cells.size ∧ seg cells l.off cs.length = cs ∧
    Unfrozen fr l.off cells.size) ∨ (E.ρ o = none ∧ ∃ t, c = .bk t [])

/-- what a function was handed: the blocks that are its own, and what its arguments are -/
structure Base where
  F : Nat → Prop
  fx : List (AV × Value)

structure Rep (W0 : World) (F0 : Base) (ρ : Nat → Option Loc) (s : St) (a : Act) (w : World) : Prop where
  size : a.tmps.size = s.n
  defers : a.defers = []
  tm : ∀ t, Val ⟨w, s.o, ρ⟩ (s.t t) (a.tmps.getD t undef)
  ob : ∀ o c, s.o o = some c → c.sh ≠ .bad → ObOK ⟨w, s.o, ρ⟩ o c
  inj : ∀ o o' c c' l l', s.o o = some c → s.o o' = some c' → c.sh ≠ .bad → c'.sh ≠ .bad → ρ o = some l → ρ o' = some l' → l.b = l'.b → o = o'
  own : ∀ o c l, s.o o = some c → c.sh ≠ .bad → ρ o = some l → F0.F l.b ∨ W0.heap.size ≤ l.b
  fr : Fr W0 F0.F w
  fx : ∀ p, p ∈ F0.fx → Val ⟨w, s.o, ρ⟩ p.1 p.2

section
variable {W0 : World} {F0 : Base} {ρ : Nat → Option Loc} {s : St} {a : Act} {w : World}

theorem Rep.setT (h : Rep W0 F0 ρ s a w) {d : Nat} {v : AV} {u : Value} (hd : d < s.n) (hv : Val ⟨w, s.o, ρ⟩ v u) : Rep W0 F0 ρ (s.setT d v) (a.put (some d) u) w := by
  refine ⟨by simpa [Act.put] using h.size, by simpa [Act.put] using h.defers, fun t => ?_, h.ob, h.inj, h.own, h.fr, h.fx⟩
  rw [St.setT_t]
  by_cases e : d = t
  · subst e
    rw [if_pos rfl]
    have : (a.put (some d) u).tmps.getD d undef = u := by simp [Act.put, Array.getD, h.size, hd]
    rw [this]; exact hv
  · rw [if_neg e]
    have : (a.put (some d) u).tmps.getD t undef = a.tmps.getD t undef := by
      simp [Act.put, Array.getD_eq_getD_getElem?, Array.getElem?_setIfInBounds_ne e]
    rw [this]; exact h.tm t

/-- what is known of a slot may be said again -/
theorem Rep.know (h : Rep W0 F0 ρ s a w) {d : Nat} {v : AV} (hv : Val ⟨w, s.o, ρ⟩ v (a.tmps.getD d undef)) : Rep W0 F0 ρ (s.setT d v) a w := by
  refine ⟨h.size, h.defers, fun t => ?_, h.ob, h.inj, h.own, h.fr, h.fx⟩
  rw [St.setT_t]
  by_cases e : d = t
  · subst e; rw [if_pos rfl]; exact hv
  · rw [if_neg e]; exact h.tm t

/-- states that look alike -/
theorem Rep.congr {s' : St} (h : Rep W0 F0 ρ s a w) (hn : s'.n = s.n) (ht : ∀ t, s'.t t = s.t t) (ho : s'.o = s.o) : Rep W0 F0 ρ s' a w := by
  refine ⟨by rw [hn]; exact h.size, h.defers, fun t => by rw [ht, ho]; exact h.tm t, ?_, ?_, ?_, h.fr, by rw [ho]; exact h.fx⟩
  · rw [ho]; exact h.ob
  · rw [ho]; exact h.inj
  · rw [ho]; exact h.own

/-- the world has turned in nothing that is told -/
theorem Rep.world {w' : World} (h : Rep W0 F0 ρ s a w) (hh : w'.heap = w.heap) (h1 : w'.os = w.os) (h2 : w'.tape = w.tape) (h3 : w'.output = w.output) : Rep W0 F0 ρ s a w' := by
  have hE : Ext ⟨w, s.o, ρ⟩ ⟨w', s.o, ρ⟩ := by
    have := Ext.refl ⟨w', s.o, ρ⟩
    refine ⟨fun b o hF hb => ⟨by show w'.heap[b]? = _; rw [hh]; exact hb, hF⟩, fun o c hc => ⟨c, hc, ?_⟩⟩
    by_cases hb : c.sh = .bad
    · exact .inl hb
    · exact .inr ⟨hb, rfl, rfl, fun l cells T fr _ hl => ⟨cells, fr, by show w'.heap[l.b]? = _; rw [hh]; exact hl, Nat.le_refl _⟩⟩
  refine ⟨h.size, h.defers, fun t => hE.val (h.tm t), fun o c hc hs => ?_, h.inj, h.own, ?_, fun p hp => hE.val (h.fx p hp)⟩
  · rcases h.ob o c hc hs with ⟨l, cells, T, fr, cs, h1, h2, h3, h4, h5, h6⟩ | h1
    · exact .inl ⟨l, cells, T, fr, cs, h1, by show w'.heap[l.b]? = _; rw [hh]; exact h2, hE.ce h3, h4, h5, h6⟩
    · exact .inr h1
  · exact ⟨h1.trans h.fr.os, h2.trans h.fr.tape, h3.trans h.fr.output, by rw [hh]; exact h.fr.size, fun b hb hF => by rw [hh]; exact h.fr.block b hb hF, fun b cells T fr hb => by rw [hh]; exact h.fr.keep b cells T fr hb⟩

def upd (ρ : Nat → Option Loc) (o : Nat) (l : Option Loc) : Nat → Option Loc := fun i => if i = o then l else ρ i

/-- an object more -/
theorem ext_new {o : Nat} (hab : s.o o = none) (hdom : ∀ x c l, s.o x = some c → c.sh ≠ .bad → ρ x = some l → l.b < w.heap.size) (c : AV) (ob : Obj) (l : Option Loc) (hl : ∀ x, l = some x → x.b = w.heap.size) :
    Ext ⟨w, s.o, ρ⟩ ⟨w.alloc ob, (s.setO o c).o, upd ρ o l⟩ := by
  refine ⟨fun b x hF hb => ?_, fun x d hd => ?_⟩
  · have hlt : b < w.heap.size := (Array.getElem?_eq_some_iff.1 hb).1
    refine ⟨by show (w.alloc ob).heap[b]? = _; rw [hp_old w ob b hlt]; exact hb, ?_⟩
    rintro ⟨x, d, k, hx, hd, hk, rfl⟩
    simp only [St.setO_o] at hx
    by_cases e : o = x
    · subst e
      simp only [upd, if_true] at hk
      have := hl k hk
      omega
    · rw [if_neg e] at hx
      simp only [upd, if_neg (Ne.symm e)] at hk
      exact hF ⟨x, d, k, hx, hd, hk, rfl⟩
  · have e : o ≠ x := fun e => by subst e; simp [hab] at hd
    refine ⟨d, by simp only [St.setO_o]; rw [if_neg e]; exact hd, ?_⟩
    by_cases hb : d.sh = .bad
    · exact .inl hb
    · refine .inr ⟨hb, rfl, by simp [upd, Ne.symm e], fun l cells T fr hl hh => ⟨cells, fr, ?_, Nat.le_refl _⟩⟩
      have hlt : l.b < w.heap.size := (Array.getElem?_eq_some_iff.1 hh).1
      show (w.alloc ob).heap[l.b]? = _
      rw [hp_old w ob _ hlt]; exact hh

theorem Rep.dom (h : Rep W0 F0 ρ s a w) : ∀ x c l, s.o x = some c → c.sh ≠ .bad → ρ x = some l → l.b < w.heap.size := by
  intro x c l hx hc hl
  rcases h.ob x c hx hc with ⟨l', cells, T, fr, cs, h1, h2, _⟩ | ⟨h1, _⟩
  · have h1' : ρ x = some l' := h1
    have : l' = l := by simpa [h1'] using hl
    subst this
    exact (Array.getElem?_eq_some_iff.1 h2).1
  · have h1' : ρ x = none := h1
    simp [h1'] at hl

theorem Rep.new (h : Rep W0 F0 ρ s a w) {o : Nat} {c : AV} {cs : List Value} {cells : Array Value} {T : TypeId} {fr : Nat × Nat} (hab : s.o o = none) (hc : Ce ⟨w, s.o, ρ⟩ c cs)
    (hl : cs.length ≤ cells.size) (hs : seg cells 0 cs.length = cs) (hf : Unfrozen fr 0 cells.size) :
    Rep W0 F0 (upd ρ o (some ⟨w.heap.size, 0⟩)) (s.setO o c) a (w.alloc (.cells cells T fr)) := by
  have hE := ext_new (o := o) hab h.dom c (.cells cells T fr) (some ⟨w.heap.size, 0⟩) (fun x hx => by cases hx; rfl)
  refine ⟨h.size, h.defers, fun t => hE.val (h.tm t), fun x d hx hd => ?_, ?_, ?_, ?_, fun p hp => hE.val (h.fx p hp)⟩
  · simp only [St.setO_o] at hx
    by_cases e : o = x
    · subst e
      rw [if_pos rfl] at hx
      cases hx
      refine .inl ⟨⟨w.heap.size, 0⟩, cells, T, fr, cs, by simp [upd], hp_new _ _, hE.ce hc, by simpa using hl, hs, by simpa using hf⟩
    · rw [if_neg e] at hx
      rcases h.ob x d hx hd with ⟨l, cells', T', fr', cs', h1, h2, h3, h4, h5, h6⟩ | h1
      · have hlt : l.b < w.heap.size := (Array.getElem?_eq_some_iff.1 h2).1
        exact .inl ⟨l, cells', T', fr', cs', by simp [upd, Ne.symm e]; exact h1, by show (w.alloc _).heap[l.b]? = _; rw [hp_old _ _ _ hlt]; exact h2, hE.ce h3, h4, h5, h6⟩
      · exact .inr ⟨by simp [upd, Ne.symm e]; exact h1.1, h1.2⟩
  · intro x x' d d' l l' hx hx' hd hd' hl hl' hb
    simp only [St.setO_o] at hx hx'
    by_cases e : o = x <;> by_cases e' : o = x'
    · rw [← e, ← e']
    · exfalso
      rw [if_neg e'] at hx'
      simp only [upd, Ne.symm e', if_false] at hl'
      simp only [upd, e, if_true, Option.some.injEq] at hl
      have := h.dom x' d' l' hx' hd' hl'
      subst hl; simp at hb; omega
    · exfalso
      rw [if_neg e] at hx
      simp only [upd, Ne.symm e, if_false] at hl
      simp only [upd, e', if_true, Option.some.injEq] at hl'
      have := h.dom x d l hx hd hl
      subst hl'; simp at hb; omega
    · rw [if_neg e] at hx; rw [if_neg e'] at hx'
      simp only [upd, Ne.symm e, if_false] at hl
      simp only [upd, Ne.symm e', if_false] at hl'
      exact h.inj x x' d d' l l' hx hx' hd hd' hl hl' hb
  · intro x d l hx hd hl
    simp only [St.setO_o] at hx
    by_cases e : o = x
    · simp only [upd, e, if_true, Option.some.injEq] at hl
      subst hl
      exact .inr h.fr.size
    · rw [if_neg e] at hx
      simp only [upd, Ne.symm e, if_false] at hl
      exact h.own x d l hx hd hl
  · refine ⟨h.fr.os, h.fr.tape, h.fr.output, by have := h.fr.size; simp; omega, fun b hb hF => ?_, fun b cl T' fr' hb => ?_⟩
    · rw [hp_old _ _ _ (by have := h.fr.size; omega)]
      exact h.fr.block b hb hF
    · obtain ⟨c1, f1, h1, h2⟩ := h.fr.keep b cl T' fr' hb
      exact ⟨c1, f1, by rw [hp_old _ _ _ (Array.getElem?_eq_some_iff.1 h1).1]; exact h1, h2⟩

/-- a row of nothing -/
theorem Rep.newNil (h : Rep W0 F0 ρ s a w) {o : Nat} (t : Ty) (hab : s.o o = none) : Ext ⟨w, s.o, ρ⟩ ⟨w, (s.setO o (.bk t [])).o, upd ρ o none⟩ ∧ Rep W0 F0 (upd ρ o none) (s.setO o (.bk t [])) a w := by
  have hE : Ext ⟨w, s.o, ρ⟩ ⟨w, (s.setO o (.bk t [])).o, upd ρ o none⟩ := by
    refine ⟨fun b x hF hb => ⟨hb, ?_⟩, fun x d hd => ?_⟩
    · rintro ⟨x, d, k, hx, hd, hk, rfl⟩
      simp only [St.setO_o] at hx
      by_cases e : o = x
      · simp [upd, e] at hk
      · rw [if_neg e] at hx
        simp only [upd, if_neg (Ne.symm e)] at hk
        exact hF ⟨x, d, k, hx, hd, hk, rfl⟩
    · have e : o ≠ x := fun e => by subst e; simp [hab] at hd
      refine ⟨d, by simp only [St.setO_o]; rw [if_neg e]; exact hd, ?_⟩
      by_cases hb : d.sh = .bad
      · exact .inl hb
      · exact .inr ⟨hb, rfl, by simp [upd, Ne.symm e], fun l cells T fr hl hh => ⟨cells, fr, hh, Nat.le_refl _⟩⟩
  refine ⟨hE, h.size, h.defers, fun t => hE.val (h.tm t), fun x d hx hd => ?_, ?_, ?_, h.fr, fun p hp => hE.val (h.fx p hp)⟩
  · simp only [St.setO_o] at hx
    by_cases e : o = x
    · subst e
      rw [if_pos rfl] at hx
      cases hx
      exact .inr ⟨by simp [upd], t, rfl⟩
    · rw [if_neg e] at hx
      rcases h.ob x d hx hd with ⟨l, cells', T', fr', cs', h1, h2, h3, h4, h5, h6⟩ | h1
      · exact .inl ⟨l, cells', T', fr', cs', by simp [upd, Ne.symm e]; exact h1, h2, hE.ce h3, h4, h5, h6⟩
      · exact .inr ⟨by simp [upd, Ne.symm e]; exact h1.1, h1.2⟩
  · intro x x' d d' l l' hx hx' hd hd' hl hl' hb
    simp only [St.setO_o] at hx hx'
    by_cases e : o = x
    · simp [upd, e] at hl
    · by_cases e' : o = x'
      · simp [upd, e'] at hl'
      · rw [if_neg e] at hx; rw [if_neg e'] at hx'
        simp only [upd, Ne.symm e, if_false] at hl
        simp only [upd, Ne.symm e', if_false] at hl'
        exact h.inj x x' d d' l l' hx hx' hd hd' hl hl' hb
  · intro x d l hx hd hl
    simp only [St.setO_o] at hx
    by_cases e : o = x
    · simp [upd, e] at hl
    · rw [if_neg e] at hx
      simp only [upd, Ne.symm e, if_false] at hl
      exact h.own x d l hx hd hl

/-- an object is given up -/
theorem Rep.kill (h : Rep W0 F0 ρ s a w) {o : Nat} {c : AV} (hc : s.o o = some c) : Ext ⟨w, s.o, ρ⟩ ⟨w, (s.setO o .top).o, ρ⟩ ∧ Rep W0 F0 ρ (s.setO o .top) a w := by
  have hE : Ext ⟨w, s.o, ρ⟩ ⟨w, (s.setO o .top).o, ρ⟩ := by
    refine ⟨fun b x hF hb => ⟨hb, ?_⟩, fun x d hd => ?_⟩
    · rintro ⟨x, d, k, hx, hd, hk, rfl⟩
      simp only [St.setO_o] at hx
      by_cases e : o = x
      · rw [if_pos e] at hx; cases hx; simp [AV.sh] at hd
      · rw [if_neg e] at hx; exact hF ⟨x, d, k, hx, hd, hk, rfl⟩
    · by_cases e : o = x
      · exact ⟨.top, by simp [St.setO_o, e], .inl rfl⟩
      · refine ⟨d, by simp only [St.setO_o]; rw [if_neg e]; exact hd, ?_⟩
        by_cases hb : d.sh = .bad
        · exact .inl hb
        · exact .inr ⟨hb, rfl, rfl, fun l cells T fr hl hh => ⟨cells, fr, hh, Nat.le_refl _⟩⟩
  have back : ∀ x d, (s.setO o .top).o x = some d → d.sh ≠ .bad → s.o x = some d := by
    intro x d hx hd
    simp only [St.setO_o] at hx
    by_cases e : o = x
    · rw [if_pos e] at hx; cases hx; simp [AV.sh] at hd
    · rw [if_neg e] at hx; exact hx
  refine ⟨hE, h.size, h.defers, fun t => hE.val (h.tm t), fun x d hx hd => ?_, ?_, ?_, h.fr, fun p hp => hE.val (h.fx p hp)⟩
  · rcases h.ob x d (back x d hx hd) hd with ⟨l, cells', T', fr', cs', h1, h2, h3, h4, h5, h6⟩ | h1
    · exact .inl ⟨l, cells', T', fr', cs', h1, h2, hE.ce h3, h4, h5, h6⟩
    · exact .inr h1
  · intro x x' d d' l l' hx hx' hd hd'
    exact h.inj x x' d d' l l' (back x d hx hd) (back x' d' hx' hd') hd hd'
  · intro x d l hx hd
    exact h.own x d l (back x d hx hd) hd

/-- the cells of an object are written; its skeleton stays -/
theorem ext_wr (h : Rep W0 F0 ρ s a w) {o : Nat} {c c' : AV} (hc : s.o o = some c) (hs : c.sh ≠ .bad) (hs' : c'.sh = c.sh) {l : Loc} (hl : ρ o = some l) {cells cells' : Array Value} {T : TypeId} {fr : Nat × Nat}
    (hb : w.heap[l.b]? = some (.cells cells T fr)) (hz : cells.size = cells'.size) : Ext ⟨w, s.o, ρ⟩ ⟨w.setRow l.b cells', (s.setO o c').o, ρ⟩ := by
  refine ⟨fun b x hF hx => ?_, fun x d hd => ?_⟩
  · have hne : b ≠ l.b := fun e => hF ⟨o, c, l, hc, hs, hl, e.symm⟩
    refine ⟨by show (w.setRow l.b cells').heap[b]? = _; rw [setRow_other w l.b b cells' hne]; exact hx, ?_⟩
    rintro ⟨y, d, k, hy, hd, hk, rfl⟩
    simp only [St.setO_o] at hy
    by_cases e : o = y
    · subst e; exact hF ⟨o, c, k, hc, hs, hk, rfl⟩
    · rw [if_neg e] at hy; exact hF ⟨y, d, k, hy, hd, hk, rfl⟩
  · have hblk : ∀ (k : Loc) (cl : Array Value) (T' : TypeId) (fr' : Nat × Nat), w.heap[k.b]? = some (.cells cl T' fr') → ∃ cl' fr'', (w.setRow l.b cells').heap[k.b]? = some (.cells cl' T' fr'') ∧ cl.size ≤ cl'.size := by
      intro k cl T' fr' hk
      by_cases e : k.b = l.b
      · rw [e] at hk ⊢
        rw [hb] at hk
        cases hk
        exact ⟨cells', fr, setRow_heap w l.b cells cells' T fr hb, by omega⟩
      · exact ⟨cl, fr', by rw [setRow_other w l.b k.b cells' e]; exact hk, Nat.le_refl _⟩
    by_cases e : o = x
    · subst e
      have hd' : s.o o = some d := hd
      rw [hc] at hd'; cases hd'
      exact ⟨c', by simp [St.setO_o], .inr ⟨hs, hs', rfl, fun k cl T' fr' _ hk => hblk k cl T' fr' hk⟩⟩
    · refine ⟨d, by simp only [St.setO_o]; rw [if_neg e]; exact hd, ?_⟩
      by_cases hb' : d.sh = .bad
      · exact .inl hb'
      · exact .inr ⟨hb', rfl, rfl, fun k cl T' fr' _ hk => hblk k cl T' fr' hk⟩

theorem Rep.wr (h : Rep W0 F0 ρ s a w) {o : Nat} {c c' : AV} (hc : s.o o = some c) (hs : c.sh ≠ .bad) (hs' : c'.sh = c.sh) {l : Loc} (hl : ρ o = some l) {cells cells' : Array Value} {T : TypeId} {fr : Nat × Nat}
    (hb : w.heap[l.b]? = some (.cells cells T fr)) (hz : cells.size = cells'.size) {cs : List Value} (hc' : Ce ⟨w, s.o, ρ⟩ c' cs) (h4 : l.off + cs.length ≤ cells.size) (h5 : seg cells' l.off cs.length = cs)
    (h6 : Unfrozen fr l.off cells.size) :
    Rep W0 F0 ρ (s.setO o c') a (w.setRow l.b cells') := by
  have hE := ext_wr h hc hs hs' hl hb hz
  have back : ∀ x d, (s.setO o c').o x = some d → d.sh ≠ .bad → ∃ d', s.o x = some d' ∧ d'.sh ≠ .bad := by
    intro x d hx hd
    simp only [St.setO_o] at hx
    by_cases e : o = x
    · subst e; exact ⟨c, hc, hs⟩
    · rw [if_neg e] at hx; exact ⟨d, hx, hd⟩
  refine ⟨h.size, h.defers, fun t => hE.val (h.tm t), fun x d hx hd => ?_, ?_, ?_, ?_, fun p hp => hE.val (h.fx p hp)⟩
  · simp only [St.setO_o] at hx
    by_cases e : o = x
    · subst e
      rw [if_pos rfl] at hx
      cases hx
      exact .inl ⟨l, cells', T, fr, cs, hl, setRow_heap w l.b cells cells' T fr hb, hE.ce hc', by omega, h5, hz ▸ h6⟩
    · rw [if_neg e] at hx
      rcases h.ob x d hx hd with ⟨k, cl, T', fr', cs', g1, g2, g3, g4, g5, g6⟩ | h1
      · have hne : k.b ≠ l.b := fun e' => e (h.inj x o d c k l hx hc hd hs g1 hl e').symm
        exact .inl ⟨k, cl, T', fr', cs', g1, by show (w.setRow l.b cells').heap[k.b]? = _; rw [setRow_other w l.b k.b cells' hne]; exact g2, hE.ce g3, g4, g5, g6⟩
      · exact .inr h1
  · intro x x' d d' k k' hx hx' hd hd'
    obtain ⟨e, he, hes⟩ := back x d hx hd
    obtain ⟨e', he', hes'⟩ := back x' d' hx' hd'
    exact h.inj x x' e e' k k' he he' hes hes'
  · intro x d k hx hd
    obtain ⟨e, he, hes⟩ := back x d hx hd
    exact h.own x e k he hes
  · refine ⟨h.fr.os, h.fr.tape, h.fr.output, by simp; exact h.fr.size, fun b hb' hF => ?_, keep_setRow hb hz h.fr.keep⟩
    have hne : b ≠ l.b := by
      rintro rfl
      rcases h.own o c l hc hs hl with g | g
      · exact hF g
      · omega
    rw [setRow_other w l.b b cells' hne]
    exact h.fr.block b hb' hF

end
end Go.Ev

/- What single reads and writes of the machine come to. -/
set_option linter.unusedVariables false
set_option linter.unusedSimpArgs false
namespace Go.Ev
open Go

theorem addr_add (b off n : Nat) : (⟨b, off, none⟩ : Addr).add n = ⟨b, off + n, none⟩ := by
  unfold Addr.add
  split
  · rename_i h; subst h; rfl
  · rfl

section
variable {P : Program} {w : World}

def descAgg : TypeDesc → Bool
  | .struct _ => true
  | .array _ _ => true
  | _ => false

theorem run_isAgg {T : TypeId} {d : TypeDesc} (hd : P.underlying T = some d) : (isAgg T).run P w = .ok (descAgg d) w := by
  unfold isAgg
  rw [Sem.run_bind, run_underlying hd w]
  cases d <;> rfl
theorem run_sizeOf {T : TypeId} {i : TypeInfo} (hi : P.info? T = some i) : (sizeOf T).run P w = .ok i.size w := by
  simp [sizeOf, typeInfo, hi]
theorem run_typeInfo' {T : TypeId} {i : TypeInfo} (hi : P.info? T = some i) : (typeInfo T).run P w = .ok i w := by
  simp [typeInfo, hi]
theorem run_zeroValue {T : TypeId} {i : TypeInfo} {z : Value} (hi : P.info? T = some i) (hz : i.zero = some z) : (zeroValue T).run P w = .ok z w := by
  simp [zeroValue, typeInfo, hi, hz]

theorem run_loadCells_seg {b off n : Nat} {cells : Array Value} {T : TypeId} {fr : Nat × Nat} (hb : w.heap[b]? = some (.cells cells T fr)) (hf : off + n ≤ cells.size) :
    (loadCells ⟨b, off, none⟩ n).run P w = .ok (seg cells off n).toArray w := by
  have hl := seg_length hf
  have := run_loadCells_list (P := P) w ⟨b, off, none⟩ (seg cells off n) (fun j v hv => by
    have hj : j < n := by
      have := (List.getElem?_eq_some_iff.1 hv).1
      omega
    rw [addr_add]
    simp only [World.cell?, hb]
    simp only [seg, List.getElem?_take, if_pos hj, List.getElem?_drop] at hv
    simpa using hv)
  rwa [hl] at this

theorem run_loadVar_seg {T : TypeId} {d : TypeDesc} {i : TypeInfo} (hd : P.underlying T = some d) (hi : P.info? T = some i) {b off : Nat} {cells : Array Value} {T' : TypeId} {fr : Nat × Nat}
    (hb : w.heap[b]? = some (.cells cells T' fr)) (hf : off + i.size ≤ cells.size) (ha : descAgg d = true) :
    (loadVar T ⟨b, off, none⟩).run P w = .ok (.agg (seg cells off i.size).toArray) w := by
  unfold loadVar
  simp [Sem.run_bind, run_isAgg hd, ha, run_sizeOf hi, run_loadCells_seg hb hf]
theorem run_loadVar_one {T : TypeId} {d : TypeDesc} (hd : P.underlying T = some d) {b off : Nat} {cells : Array Value} {T' : TypeId} {fr : Nat × Nat} {u : Value}
    (hb : w.heap[b]? = some (.cells cells T' fr)) (hu : seg cells off 1 = [u]) (ha : descAgg d = false) :
    (loadVar T ⟨b, off, none⟩).run P w = .ok u w := by
  have h1 : cells[off]? = some u := by
    have : (seg cells off 1)[0]? = some u := by rw [hu]; rfl
    simpa [seg, List.getElem?_take] using this
  unfold loadVar
  simp [Sem.run_bind, run_isAgg hd, ha, World.cell?, hb, h1]

def splA (cells : Array Value) (k : Nat) (vs : List Value) : Array Value := (spl cells.toList k vs).toArray
theorem splA_size {cells : Array Value} {k : Nat} {vs : List Value} (h : k + vs.length ≤ cells.size) : (splA cells k vs).size = cells.size := by
  simp only [splA, List.size_toArray]; rw [spl_length (by simpa using h)]; simp
theorem seg_splA_same {cells : Array Value} {l k n : Nat} {vs : List Value} (h2 : k + vs.length ≤ n) (h : l + n ≤ cells.size) : seg (splA cells (l + k) vs) l n = spl (seg cells l n) k vs := by
  unfold seg splA
  rw [List.toList_toArray, seg_spl_in (by omega) (by omega) (by simpa using h), show l + k - l = k by omega]

theorem run_storeCells_spl {b : Nat} {T : TypeId} {fr : Nat × Nat} (off : Nat) : ∀ (vs : List Value) (i : Nat) (cells : Array Value) (w : World), w.heap[b]? = some (.cells cells T fr) → off + i + vs.length ≤ cells.size →
    Unfrozen fr (off + i) cells.size → (∀ v ∈ vs, v.oneCell' = true) → (storeCells ⟨b, off, none⟩ vs i).run P w = .ok () (w.setRow b (splA cells (off + i) vs))
  | [], i, cells, w, hb, hf, hu, h1 => by
    have : splA cells (off + i) [] = cells := by
      unfold splA spl
      simp
    rw [this]
    have hlt : b < w.heap.size := (Array.getElem?_eq_some_iff.1 hb).1
    have hv : w.heap[b] = .cells cells T fr := (Array.getElem?_eq_some_iff.1 hb).2
    simp only [storeCells]
    show Result.ok () w = _
    congr 1
    unfold World.setRow
    cases w with
    | mk heap tape drawn os output =>
      congr 1
      apply Array.ext
      · simp
      · intro k h1 h2
        simp only [Array.getElem_modify]
        split
        · rename_i hk; subst hk; simp at hv; simp [hv]
        · rfl
  | v :: rest, i, cells, w, hb, hf, hu, h1 => by
    simp only [List.length_cons] at hf
    have hi : off + i < cells.size := by omega
    have hcell : w.cell? ⟨b, off + i, none⟩ = some cells[off + i] := by simp [World.cell?, hb, hi]
    have hfro : w.frozen? ⟨b, off + i, none⟩ = false := by
      have := hu (off + i) (Nat.le_refl _) hi
      simp only [World.frozen?, hb]
      simpa using this
    have hst : (store ((⟨b, off, none⟩ : Addr).add i) v).run P w = .ok () (w.setRow b (cells.setIfInBounds (off + i) v)) := by
      rw [addr_add, run_store P w _ v _ (h1 v (by simp)), hcell]
      simp [hfro, setCell_eq_setRow w b (off + i) cells T fr v hb]
    have ih := run_storeCells_spl off rest (i + 1) (cells.setIfInBounds (off + i) v) (w.setRow b (cells.setIfInBounds (off + i) v)) (setRow_heap w b cells _ T fr hb) (by simp; omega)
      (fun j hj hk => hu j (by omega) (by simpa using hk)) (fun x hx => h1 x (by simp [hx]))
    simp only [storeCells, Sem.run_bind, hst, Result.andThen_ok, ih, setRow_setRow]
    congr 2
    unfold splA
    congr 1
    apply List.ext_getElem?
    intro k
    rw [spl_get (by simp; omega), spl_get (by simp; omega)]
    simp only [Array.toList_setIfInBounds, List.length_cons]
    by_cases c1 : k < off + i
    · rw [if_pos (by omega), if_pos c1, List.getElem?_set, if_neg (by omega)]
    · rw [if_neg c1]
      by_cases c2 : k = off + i
      · subst c2
        rw [if_pos (by omega), if_pos (by omega), List.getElem?_set, if_pos rfl]
        simp [hi]
      · rw [if_neg (by omega)]
        by_cases c3 : k < off + i + (rest.length + 1)
        · rw [if_pos (by omega), if_pos c3]
          rw [show k - (off + i) = (k - (off + (i + 1))) + 1 by omega, List.getElem?_cons_succ]
        · rw [if_neg (by omega), if_neg c3, List.getElem?_set, if_neg (by omega)]

theorem pu_one {F : Nat → Prop} : ∀ {t : Ty} {x : t.den} {cs : List Value}, Pu w F t x cs → ∀ v ∈ cs, v.oneCell' = true := by
  intro t
  induction t with
  | int k => intro x cs h; simp only [Pu] at h; subst h; simp [Value.oneCell']
  | bool => intro x cs h; simp only [Pu] at h; subst h; simp [Value.oneCell']
  | str => intro x cs h; simp only [Pu] at h; subst h; simp [Value.oneCell']
  | nl => intro x cs h; simp only [Pu] at h; subst h; simp
  | pair a b iha ihb =>
    intro x cs h v hv
    rw [← List.take_append_drop a.size cs] at hv
    rcases List.mem_append.1 hv with hv | hv
    · exact iha h.1 v hv
    · exact ihb h.2 v hv
  | arr n t ih =>
    intro x cs h v hv
    obtain ⟨q, hq, rfl⟩ := List.mem_iff_getElem.1 hv
    have hq' := hq
    rw [h.2.1] at hq'
    have hs : 0 < t.size := by
      rcases Nat.eq_zero_or_pos t.size with e | e
      · rw [e] at hq'; omega
      · exact e
    have hi : q / t.size < n := by rw [Nat.div_lt_iff_lt_mul hs]; exact hq'
    refine ih (h.2.2 _ hi) _ ?_
    rw [List.mem_iff_getElem?]
    refine ⟨q % t.size, ?_⟩
    rw [List.getElem?_take, if_pos (Nat.mod_lt _ hs), List.getElem?_drop, Nat.mul_comm, Nat.div_add_mod, List.getElem?_eq_getElem hq]
  | sl t ih => intro x cs h; obtain ⟨a, cap, rfl, _⟩ := h; simp [Value.oneCell']

theorem ce_one {E : Env} : ∀ {c : AV} {cs : List Value}, Ce E c cs → ∀ v ∈ cs, v.oneCell' = true := by
  intro c
  induction c with
  | top => intro cs h; exact h.elim
  | tup c => intro cs h; exact h.elim
  | cons a b iha ihb =>
    intro cs h v hv
    rw [← List.take_append_drop a.sh.size cs] at hv
    rcases List.mem_append.1 hv with hv | hv
    · exact iha h.1 v hv
    · exact ihb h.2 v hv
  | arr t n xs => intro cs h; exact pu_one (t := .arr n t) h
  | bk t xs => intro cs h; exact pu_one (t := .arr xs.length t) h
  | lst t xs => intro cs h; exact pu_one (t := .sl t) h
  | ref o p => intro cs h; obtain ⟨a, rfl, _⟩ := h; simp [Value.oneCell']
  | pref t x => intro cs h; obtain ⟨a, rfl, _⟩ := h; simp [Value.oneCell']
  | view o p off len => intro cs h; obtain ⟨v, rfl, n, a, cap, rfl, _⟩ := h; simp [Value.oneCell']
  | full o => intro cs h; obtain ⟨v, rfl, n, a, cap, rfl, _⟩ := h; simp [Value.oneCell']
  | pv o n => intro cs h; obtain ⟨a, rfl, _⟩ := h; simp [Value.oneCell']
  | iface T v => intro cs h; obtain ⟨a, rfl, _⟩ := h; simp [Value.oneCell']
  | _ => intro cs h; simp only [Ce] at h; subst h; simp [Value.oneCell']
end
#print axioms ce_one
end Go.Ev

/- Each operation of the evaluator tells what the machine's operation does. -/
set_option linter.unusedVariables false
set_option linter.unusedSimpArgs false
namespace Go.Ev
open Go

def Pg.Out {α : Type} (s : St) : Pg α → α → St → Prop
  | .ret v, u, s' => u = v ∧ s' = s
  | .fail, _, _ => False
  | .rdT t f, u, s' => (f (s.t t)).Out s u s'
  | .rdO o f, u, s' => ∃ c, s.o o = some c ∧ c.dead = false ∧ (f c).Out s u s'
  | .wrO o c p, u, s' => (∃ d, s.o o = some d) ∧ p.Out (s.setO o c) u s'
  | .new o c p, u, s' => s.o o = none ∧ p.Out (s.setO o c) u s'
  | .br t p q, u, s' => ∃ b, s.t t = .bool b ∧ (if b then p.Out s u s' else q.Out s u s')
  | .test c d p, u, s' => c ∧ p.Out s u s'
  | .bind _ m f, u, s' => ∃ r, m = some r ∧ (f r).Out s u s'
  | .opt _ m p f, u, s' => (m = none ∧ p.Out s u s') ∨ ∃ r, m = some r ∧ (f r).Out s u s'
  | .sel b p q, u, s' => if b then p.Out s u s' else q.Out s u s'

theorem AV.dead_sh {c : AV} (h : c.dead = false) : c.sh ≠ .bad := by cases c <;> simp_all [AV.dead, AV.sh]

def kindB : TK → TypeDesc → Bool
  | .int k, .int k' => decide (k = k')
  | .bool, .bool => true
  | .str, .string => true
  | .ptr e, .pointer e' => Nat.beq e e'
  | .sl e, .slice e' => Nat.beq e e'
  | .arr n e, .array n' e' => Nat.beq n n' && Nat.beq e e'
  | .st fs, .struct fields => decide (fields.toList.map (fun f => (f.type, f.offset)) = fs)
  | .iface, .interface _ => true
  | _, _ => false

/-- a plain value without a slice that is not nil, by its cells -/
def puB : (t : Ty) → t.den → List Value → Bool
  | .int k, x, cs => match cs with | [.int k' y] => decide (k' = k) && decide (y = (x : Int)) | _ => false
  | .bool, x, cs => match cs with | [.bool y] => decide (y = (x : Bool)) | _ => false
  | .str, x, cs => match cs with | [.string y] => decide (y = (x : ByteArray)) | _ => false
  | .nl, _, cs => cs.isEmpty
  | .pair a b, x, cs => puB a x.1 (cs.take a.size) && puB b x.2 (cs.drop a.size)
  | .arr n t, xs, cs => Nat.beq (List.length xs) n && Nat.beq cs.length (n * t.size) && (List.range n).all fun i => puB t (xs.getD i t.dflt) ((cs.drop (i * t.size)).take t.size)
  | .sl _, xs, cs => List.isEmpty xs && (match cs with | [.slice none 0 0] => true | _ => false)
theorem pu_of_puB {w : World} {F : Nat → Prop} : ∀ {t : Ty} {x : t.den} {cs : List Value}, puB t x cs = true → Pu w F t x cs := by
  intro t
  induction t with
  | int k =>
    intro x cs h
    simp only [puB] at h
    split at h
    · simp at h; simp only [Pu]; rw [h.1, h.2]
    · cases h
  | bool =>
    intro x cs h
    simp only [puB] at h
    split at h
    · simp at h; simp only [Pu]; rw [h]
    · cases h
  | str =>
    intro x cs h
    simp only [puB] at h
    split at h
    · simp at h; simp only [Pu]; rw [h]
    · cases h
  | nl => intro x cs h; simpa [puB, Pu] using h
  | pair a b iha ihb =>
    intro x cs h
    simp only [puB, Bool.and_eq_true] at h
    exact ⟨iha h.1, ihb h.2⟩
  | arr n t ih =>
    intro x cs h
    simp only [puB, Bool.and_eq_true, List.all_eq_true, List.mem_range] at h
    exact ⟨Nat.eq_of_beq_eq_true h.1.1, Nat.eq_of_beq_eq_true h.1.2, fun i hi => ih (h.2 i hi)⟩
  | sl t ih =>
    intro x cs h
    simp only [puB, Bool.and_eq_true] at h
    have h0 : x = [] := by simpa using h.1
    subst h0
    have h2 := h.2
    split at h2
    · exact ⟨none, 0, rfl, by simp, .inl rfl⟩
    · cases h2

def ceB : AV → List Value → Bool
  | .int k n, cs => puB (.int k) n cs
  | .bool b, cs => puB .bool b cs
  | .str s, cs => puB .str s cs
  | .nilp, cs => match cs with | [.pointer none] => true | _ => false
  | .nils, cs => match cs with | [.slice none 0 0] => true | _ => false
  | .nili, cs => match cs with | [.nilIface] => true | _ => false
  | .lst t xs, cs => puB (.sl t) xs cs
  | .arr t n xs, cs => puB (.arr n t) xs cs
  | .nl, cs => cs.isEmpty
  | .cons h t, cs => ceB h (cs.take h.sh.size) && ceB t (cs.drop h.sh.size)
  | _, _ => false
theorem ce_of_ceB {E : Env} : ∀ {c : AV} {cs : List Value}, ceB c cs = true → Ce E c cs := by
  intro c
  induction c with
  | int k n => intro cs h; exact pu_of_puB (w := E.w) (F := E.F) (t := .int k) h
  | bool b => intro cs h; exact pu_of_puB (w := E.w) (F := E.F) (t := .bool) h
  | str s => intro cs h; exact pu_of_puB (w := E.w) (F := E.F) (t := .str) h
  | nilp => intro cs h; simp only [ceB] at h; split at h <;> first | rfl | cases h
  | nils => intro cs h; simp only [ceB] at h; split at h <;> first | rfl | cases h
  | nili => intro cs h; simp only [ceB] at h; split at h <;> first | rfl | cases h
  | lst t xs => intro cs h; exact pu_of_puB (w := E.w) (F := E.F) (t := .sl t) h
  | arr t n xs => intro cs h; exact pu_of_puB (w := E.w) (F := E.F) (t := .arr n t) h
  | nl => intro cs h; simpa [ceB, Ce] using h
  | cons a b iha ihb => intro cs h; simp only [ceB, Bool.and_eq_true] at h; exact ⟨iha h.1, ihb h.2⟩
  | _ => intro cs h; simp [ceB] at h

def aggV : Value → Bool
  | .agg _ => true
  | _ => false
def Ty.height : Ty → Nat
  | .pair a b => max a.height b.height + 1
  | .arr _ t => t.height + 1
  | _ => 1
def sizeB (P : Program) (T n : Nat) : Bool := match P.info? T with | some i => Nat.beq i.size n | none => false
/-- are values of the type T compared by '==' as plain values of the kind? (or: the fields from a place on) -/
def eqG (P : Program) : Ty → (TypeId ⊕ (List Field × Nat)) → Bool
  | .int k, .inl T => (match P.underlying T with | some (.int k') => decide (k' = k) | _ => false)
  | .bool, .inl T => (match P.underlying T with | some .bool => true | _ => false)
  | .str, .inl T => (match P.underlying T with | some .string => true | _ => false)
  | .pair a b, .inl T => (match P.underlying T with
    | some (.struct fs) => !P.stoodInHeld T && (match fs.toList with
      | f :: r => decide (f.name ≠ "_") && Nat.beq f.offset 0 && sizeB P f.type a.size && eqG P a (.inl f.type) && eqG P b (.inr (r, a.size))
      | [] => false)
    | _ => false)
  | .pair a b, .inr (f :: r, off) => decide (f.name ≠ "_") && Nat.beq f.offset off && sizeB P f.type a.size && eqG P a (.inl f.type) && eqG P b (.inr (r, off + a.size))
  | .nl, .inr ([], _) => true
  | .arr n t, .inl T => (match P.underlying T with
    | some (.array m e) => Nat.beq m n && sizeB P e t.size && eqG P t (.inl e)
    | _ => false)
  | _, _ => false
def tiB (P : Program) (T : Nat) (ti : TI) : Bool := match P.info? T with
  | none => false
  | some i => match P.underlying T with
    | none => false
    | some d => Nat.beq i.size ti.size && Nat.beq i.bytes ti.bytes && kindB ti.k d &&
      (match i.zero with
        | none => false
        | some z => (ti.zero.dead || (ceB ti.zero z.cells.toList && decide (ti.zero.agg = aggV z) && (ti.zero.agg || decide (ti.zero.sh = .leaf)))) &&
          (match ti.ty with
            | none => true
            | some t => Nat.beq t.size ti.size && puB t t.dflt z.cells.toList && Nat.beq z.cells.size ti.size && decide (ti.k.agg = aggV z) &&
              (!ti.eq || (eqG P t (.inl T) && !P.eqGuardType P.depth T && Nat.ble t.height 5000))))

structure TOk (P : Program) (T : Nat) (ti : TI) where
  i : TypeInfo
  d : TypeDesc
  z : Value
  hi : P.info? T = some i
  hd : P.underlying T = some d
  size : i.size = ti.size
  bytes : i.bytes = ti.bytes
  kind : kindB ti.k d = true
  hz : i.zero = some z
  zero : ti.zero.dead = false → (∀ E, Ce E ti.zero z.cells.toList) ∧ ti.zero.agg = aggV z ∧ (ti.zero.agg = false → ti.zero.sh = .leaf)
  ty : ∀ t, ti.ty = some t → t.size = ti.size ∧ z.cells.size = ti.size ∧ ∀ w F, Pu w F t t.dflt z.cells.toList
  eq : ∀ t, ti.ty = some t → ti.eq = true → eqG P t (.inl T) = true ∧ P.eqGuardType P.depth T = false ∧ t.height ≤ 5000

theorem tok_of_tiB {P : Program} {T : Nat} {ti : TI} (h : tiB P T ti = true) : Nonempty (TOk P T ti) := by
  unfold tiB at h
  split at h
  · cases h
  · rename_i i hi
    split at h
    · cases h
    · rename_i d hd
      simp only [Bool.and_eq_true] at h
      obtain ⟨⟨⟨h1, h2⟩, h3⟩, h4⟩ := h
      split at h4
      · cases h4
      · rename_i z hz
        simp only [Bool.and_eq_true, Bool.or_eq_true, decide_eq_true_eq] at h4
        refine ⟨⟨i, d, z, hi, hd, Nat.eq_of_beq_eq_true h1, Nat.eq_of_beq_eq_true h2, h3, hz, fun hdead => ?_, fun t ht => ?_, fun t ht he => ?_⟩⟩
        · rcases h4.1 with h | ⟨⟨h, h'⟩, h''⟩
          · rw [h] at hdead; cases hdead
          · refine ⟨fun E => ce_of_ceB h, h', fun e => ?_⟩
            rcases h'' with h'' | h''
            · rw [h''] at e; cases e
            · exact h''
        · have h5 := h4.2
          rw [ht] at h5
          simp only [Bool.and_eq_true, decide_eq_true_eq] at h5
          exact ⟨Nat.eq_of_beq_eq_true h5.1.1.1.1, Nat.eq_of_beq_eq_true h5.1.1.2, fun w F => pu_of_puB h5.1.1.1.2⟩
        · have h5 := h4.2
          rw [ht] at h5
          simp only [Bool.and_eq_true, Bool.or_eq_true, Bool.not_eq_true'] at h5
          rcases h5.2 with h6 | h6
          · rw [he] at h6; cases h6
          · exact ⟨h6.1.1, h6.1.2, Nat.le_of_ble_eq_true h6.2⟩

/-- the types that the evaluator knows are the program's -/
def DOk (P : Program) (C : Cx) : Prop := ∀ T, C.D T = TI.none ∨ Nonempty (TOk P T (C.D T))

section
variable {P : Program} {C : Cx} {W0 : World} {F0 : Base} {ρ : Nat → Option Loc} {s s' : St} {a : Act} {w : World}

theorem tok_of_kind (hD : DOk P C) {T : Nat} (h : (C.D T).k ≠ .other) : Nonempty (TOk P T (C.D T)) := by
  rcases hD T with e | e
  · rw [e] at h; exact absurd rfl h
  · exact e

theorem seg_all (c : Array Value) : seg c 0 c.toList.length = c.toList := by
  unfold seg; rw [List.drop_zero, List.take_length]

theorem val_const (E : Env) (c : Value) : Val E (ofConst c) c := by
  unfold ofConst
  split
  · exact Val.leaf rfl rfl
  · exact Val.leaf rfl rfl
  · exact Val.leaf rfl rfl
  · exact Val.leaf rfl rfl
  · exact Val.leaf rfl rfl
  · exact Val.leaf rfl rfl
  · exact Val.top _

theorem out_rdX {α : Type} (h : Rep W0 F0 ρ s a w) {x : Operand} {k : AV → Pg α} {v : α} (ho : (rdX x k).Out s v s') : ∃ av, Val ⟨w, s.o, ρ⟩ av (a.eval x) ∧ (k av).Out s v s' := by
  cases x with
  | tmp t => exact ⟨s.t t, h.tm t, ho⟩
  | const c => exact ⟨ofConst c, val_const _ c, ho⟩
  | func f => exact ⟨.fn f, Val.leaf rfl rfl, ho⟩
  | global g => exact ho.elim

def Vals (E : Env) : List AV → List Value → Prop
  | [], us => us = []
  | v :: r, us => ∃ u us', us = u :: us' ∧ Val E v u ∧ Vals E r us'
theorem out_rdXs {α : Type} (h : Rep W0 F0 ρ s a w) : ∀ {xs : List Operand} {k : List AV → Pg α} {v : α}, (rdXs xs k).Out s v s' → ∃ vs, Vals ⟨w, s.o, ρ⟩ vs (xs.map a.eval) ∧ (k vs).Out s v s'
  | [], k, v, ho => ⟨[], rfl, ho⟩
  | x :: r, k, v, ho => by
    obtain ⟨av, h1, h2⟩ := out_rdX h ho
    obtain ⟨vs, h3, h4⟩ := out_rdXs h h2
    exact ⟨av :: vs, ⟨_, _, rfl, h1, h3⟩, h4⟩
theorem out_rdXo {α : Type} (h : Rep W0 F0 ρ s a w) {x : Option Operand} {k : Option AV → Pg α} {v : α} (ho : (rdXo x k).Out s v s') :
    (x = none ∧ (k none).Out s v s') ∨ ∃ y av, x = some y ∧ Val ⟨w, s.o, ρ⟩ av (a.eval y) ∧ (k (some av)).Out s v s' := by
  cases x with
  | none => exact .inl ⟨rfl, ho⟩
  | some y => obtain ⟨av, h1, h2⟩ := out_rdX h ho; exact .inr ⟨y, av, rfl, h1, h2⟩

/-- the operation gives a value (no new state is looked into) -/
def Gives (P : Program) (W0 : World) (F0 : Base) (o : Oper) (a : Act) (w : World) (v : AV) (s' : St) : Prop :=
  ∃ u w' ρ', ((execOp a.eval o).run P w = .ok (.value u) w' ∨ ((execOp a.eval o).run P w = .ok .skip w' ∧ u = undef)) ∧ Rep W0 F0 ρ' s' a w' ∧ Val ⟨w', s'.o, ρ'⟩ v u

theorem Val.int_eq {E : Env} {k : IntKind} {n : Int} {u : Value} (h : Val E (.int k n) u) : u = .int k n := by
  have := h.ce rfl; simpa [Ce] using this
theorem Val.bool_eq {E : Env} {b : Bool} {u : Value} (h : Val E (.bool b) u) : u = .bool b := by
  have := h.ce rfl; simpa [Ce] using this
theorem Val.str_eq {E : Env} {b : ByteArray} {u : Value} (h : Val E (.str b) u) : u = .string b := by
  have := h.ce rfl; simpa [Ce] using this
theorem Val.ref_eq {E : Env} {o : Nat} {p : List PS} {u : Value} (h : Val E (.ref o p) u) : ∃ x, u = .pointer (some x) ∧ AddrOf E o p x := by
  have := h.ce rfl; simpa [Ce] using this
theorem Val.pref_eq {E : Env} {t : Ty} {x : t.den} {u : Value} (h : Val E (.pref t x) u) : ∃ y, u = .pointer (some y) ∧ PrefOf E t x y := by
  have := h.ce rfl; simpa [Ce] using this
theorem Val.nilp_eq {E : Env} {u : Value} (h : Val E .nilp u) : u = .pointer none := by
  have := h.ce rfl; simpa [Ce] using this
theorem Val.nils_eq {E : Env} {u : Value} (h : Val E .nils u) : u = .slice none 0 0 := by
  have := h.ce rfl; simpa [Ce] using this
theorem Val.view_eq {E : Env} {o : Nat} {p : List PS} {off len : Int} {u : Value} (h : Val E (.view o p off len) u) : ViewOf E o p off len u := by
  have := h.ce rfl; simpa [Ce] using this
theorem Val.full_eq {E : Env} {o : Nat} {u : Value} (h : Val E (.full o) u) : FullOf E o u := by
  have := h.ce rfl; simpa [Ce] using this
theorem Val.lst_eq {E : Env} {t : Ty} {xs : List t.den} {u : Value} (h : Val E (.lst t xs) u) : Pu E.w E.F (.sl t) xs [u] := h.ce rfl

theorem Val.mkInt (E : Env) (k : IntKind) (n : Int) : Val E (.int k n) (.int k n) := Val.leaf rfl rfl
theorem Val.mkBool (E : Env) (b : Bool) : Val E (.bool b) (.bool b) := Val.leaf rfl rfl
theorem Val.mkStr (E : Env) (b : ByteArray) : Val E (.str b) (.string b) := Val.leaf rfl rfl

theorem give_move (h : Rep W0 F0 ρ s a w) {o : Oper} {x : Operand} (hop : o.op = .move x ∨ o.op = .assign x) {v : AV} (ho : (rdX x (.ret : AV → Pg AV)).Out s v s') : Gives P W0 F0 o a w v s' := by
  obtain ⟨av, h1, h2⟩ := out_rdX h ho
  obtain ⟨rfl, rfl⟩ := h2
  refine ⟨a.eval x, w, ρ, .inl ?_, h, h1⟩
  rcases hop with e | e <;> simp [execOp, e]

theorem give_pick (h : Rep W0 F0 ρ s a w) {o : Oper} {t : Nat} {x y : Operand} (hop : o.op = .pick (.tmp t) x y) {v : AV}
    (ho : (Pg.br t (rdX x (.ret : AV → Pg AV)) (rdX y .ret)).Out s v s') : Gives P W0 F0 o a w v s' := by
  obtain ⟨b, hb, ho⟩ := ho
  have ht := h.tm t
  rw [hb] at ht
  have hb' : a.eval (.tmp t) = .bool b := ht.bool_eq
  cases b with
  | true =>
    obtain ⟨av, h1, h2⟩ := out_rdX h ho
    obtain ⟨rfl, rfl⟩ := h2
    exact ⟨a.eval x, w, ρ, .inl (by simp [execOp, hop, hb', asBool]), h, h1⟩
  | false =>
    obtain ⟨av, h1, h2⟩ := out_rdX h ho
    obtain ⟨rfl, rfl⟩ := h2
    exact ⟨a.eval y, w, ρ, .inl (by simp [execOp, hop, hb', asBool]), h, h1⟩

theorem give_alloc (hD : DOk P C) (h : Rep W0 F0 ρ s a w) {o : Oper} {T d : Nat} (hop : o.op = .alloc T) {v : AV} (hdead : (C.D T).zero.dead = false)
    (ho : (Pg.new d (C.D T).zero (.ret (.ref d []))).Out s v s') : Gives P W0 F0 o a w v s' := by
  obtain ⟨hn, rfl, rfl⟩ := ho
  rcases hD T with e | tk
  · rw [e] at hdead; simp [TI.none, AV.dead] at hdead
  · obtain ⟨tk⟩ := tk
    obtain ⟨hz, hagg, _⟩ := tk.zero hdead
    have hce := hz ⟨w, s.o, ρ⟩
    have hr := h.new (o := d) (c := (C.D T).zero) (cs := tk.z.cells.toList) (cells := tk.z.cells) (T := T) (fr := (0, 0)) hn hce (by simp) (seg_all _) (fun i _ _ => by simp)
    refine ⟨.pointer (some ⟨w.heap.size, 0, none⟩), _, _, .inl ?_, hr, Val.leaf rfl ?_⟩
    · simp [execOp, hop, Instr.alloc, run_zeroValue tk.hi tk.hz, newVar, newRow]
    · refine ⟨_, rfl, (C.D T).zero, by simp [St.setO_o], .inr ⟨⟨w.heap.size, 0⟩, 0, _, by simp [upd], rfl, by simp⟩⟩
end
end Go.Ev

/- Each operation of the evaluator tells what the machine's operation does: reads and writes of memory, numbers, strings. -/
set_option linter.unusedVariables false
set_option linter.unusedSimpArgs false
namespace Go.Ev
open Go
section
variable {P : Program} {C : Cx} {W0 : World} {F0 : Base} {ρ : Nat → Option Loc} {s s' : St} {a : Act} {w : World}

theorem kind_agg {k : TK} {d : TypeDesc} (h : kindB k d = true) : k.agg = descAgg d := by
  cases k <;> cases d <;> simp_all [kindB, TK.agg, descAgg]
theorem seg_sub {cells : Array Value} {l k n m : Nat} (h : k + m ≤ n) : seg cells (l + k) m = ((seg cells l n).drop k).take m := by
  unfold seg
  rw [drop_take_drop_take _ _ _ _ _ h]
theorem out_if {α : Type} {c : Prop} [Decidable c] {p q : Pg α} {v : α} (h : (if c then p else q).Out s v s') : (c ∧ p.Out s v s') ∨ (¬ c ∧ q.Out s v s') := by
  by_cases hc : c
  · rw [if_pos hc] at h; exact .inl ⟨hc, h⟩
  · rw [if_neg hc] at h; exact .inr ⟨hc, h⟩
theorem out_bif {α : Type} {c : Bool} {p : Pg α} {v : α} (h : (bif c then p else .fail).Out s v s') : c = true ∧ p.Out s v s' := by
  cases c
  · exact h.elim
  · exact ⟨rfl, h⟩
theorem out_nif {α : Type} {c : Bool} {p : Pg α} {v : α} (h : (bif c then .fail else p).Out s v s') : c = false ∧ p.Out s v s' := by
  cases c
  · exact ⟨rfl, h⟩
  · exact h.elim
theorem out_ifp {α : Type} {c : Prop} [Decidable c] {p : Pg α} {v : α} (h : (if c then p else .fail).Out s v s') : c ∧ p.Out s v s' := by
  rcases out_if h with h | ⟨_, h⟩
  · exact h
  · exact h.elim
/-- an object that is alive, and where it lies -/
theorem Rep.at_ref (h : Rep W0 F0 ρ s a w) {o : Nat} {p : List PS} {x : Addr} {c : AV} (hx : AddrOf ⟨w, s.o, ρ⟩ o p x) (hc : s.o o = some c) (hd : c.dead = false) :
    ∃ l k e cells T fr cs, ρ o = some l ∧ Sh.off p c.sh = some (k, e) ∧ x = ⟨l.b, l.off + k, none⟩ ∧ w.heap[l.b]? = some (.cells cells T fr) ∧ Ce ⟨w, s.o, ρ⟩ c cs ∧ l.off + cs.length ≤ cells.size ∧ seg cells l.off cs.length = cs ∧
      Unfrozen fr l.off cells.size ∧ k + e.size ≤ cs.length := by
  obtain ⟨c', hc', hk⟩ := hx
  have : c' = c := by
    have h' : s.o o = some c' := hc'
    rw [hc] at h'; exact (Option.some.inj h').symm
  subst this
  rcases hk with hk | ⟨l, k, e, hl, ho, hx⟩
  · exact absurd hk (AV.dead_sh hd)
  · rcases h.ob o c' hc (AV.dead_sh hd) with ⟨l', cells, T, fr, cs, g1, g2, g3, g4, g5, g6⟩ | ⟨g1, _⟩
    · have e1 : l' = l := by
        have h1 : ρ o = some l' := g1
        have h2 : ρ o = some l := hl
        rw [h1] at h2; exact Option.some.inj h2
      subst e1
      exact ⟨l', k, e, cells, T, fr, cs, hl, ho, hx, g2, g3, g4, g5, g6, by have := off_le ho; rw [g3.len]; exact this⟩
    · have h1 : ρ o = none := g1
      have h2 : ρ o = some l := hl
      rw [h1] at h2; cases h2

theorem give_box (h : Rep W0 F0 ρ s a w) {o : Oper} {T d : Nat} {x : Operand} (hop : o.op = .box T x) {v : AV}
    (ho : (rdX x fun v => bif v.dead || bkB v then (.fail : Pg AV) else .new d v (.ret (.ref d []))).Out s v s') : Gives P W0 F0 o a w v s' := by
  obtain ⟨av, h1, ho⟩ := out_rdX h ho
  obtain ⟨hb, ho⟩ := out_nif ho
  simp only [Bool.or_eq_false_iff] at hb
  obtain ⟨hn, rfl, rfl⟩ := ho
  obtain ⟨hce, _⟩ := h1.cells (AV.dead_sh hb.1) (by rintro t xs rfl; simp [bkB] at hb)
  have hr := h.new (o := d) (c := av) (cs := (a.eval x).cells.toList) (cells := (a.eval x).cells) (T := T) (fr := (0, 0)) hn hce (by simp) (seg_all _) (fun i _ _ => by simp)
  refine ⟨.pointer (some ⟨w.heap.size, 0, none⟩), _, _, .inl ?_, hr, Val.leaf rfl ?_⟩
  · simp [execOp, hop, Instr.box, newVar, newRow]
  · refine ⟨_, rfl, av, by simp [St.setO_o], .inr ⟨⟨w.heap.size, 0⟩, 0, _, by simp [upd], rfl, by simp⟩⟩

theorem load_known (hD : DOk P C) {T : Nat} {v : AV} (hl : loadOk (C.D T) v = true) : v.sh ≠ .bad ∧ Nonempty (TOk P T (C.D T)) ∧ v.sh.size = (C.D T).size ∧ v.agg = (C.D T).k.agg ∧ (v.agg = false → v.sh = .leaf) := by
  simp only [loadOk, Bool.and_eq_true] at hl
  obtain ⟨h1, h2⟩ := hl
  have h1 := Nat.eq_of_beq_eq_true h1
  by_cases e : v.agg = true
  · rw [if_pos e] at h2
    refine ⟨by cases v <;> simp_all [AV.agg, AV.sh], ?_, h1, by rw [e, h2], fun e' => by rw [e] at e'; cases e'⟩
    refine tok_of_kind hD (fun e' => ?_)
    rw [e'] at h2; simp [TK.agg] at h2
  · rw [if_neg e] at h2
    simp only [Bool.and_eq_true, Bool.not_eq_true', decide_eq_true_eq] at h2
    have e' : v.agg = false := by simpa using e
    refine ⟨by rw [h2.2]; simp, ?_, h1, by rw [e', h2.1], fun _ => h2.2⟩
    rcases hD T with e | e
    · rw [e, h2.2] at h1; simp [TI.none, Sh.size] at h1
    · exact e

/-- a load of what lies in cells -/
theorem run_load_ce (hD : DOk P C) {T : Nat} {v : AV} (hl : loadOk (C.D T) v = true) {E : Env} {b off : Nat} {cells : Array Value} {T' : TypeId} {fr : Nat × Nat} (hb : w.heap[b]? = some (.cells cells T' fr))
    (hf : off + v.sh.size ≤ cells.size) (hc : Ce E v (seg cells off v.sh.size)) : ∃ u, (loadVar T ⟨b, off, none⟩).run P w = .ok u w ∧ Val E v u := by
  obtain ⟨h0, ⟨tk⟩, h2, h3, h4⟩ := load_known hD hl
  have hk := kind_agg tk.kind
  by_cases e : v.agg = true
  · refine ⟨_, run_loadVar_seg tk.hd tk.hi hb (by rw [tk.size, ← h2]; exact hf) (by rw [← hk, ← h3, e]), .inl (.inr (.inl ⟨e, _, rfl, ?_⟩))⟩
    rw [tk.size, ← h2]; exact hc
  · have e' : v.agg = false := by simpa using e
    have hs := h4 e'
    rw [hs] at hf hc
    simp only [Sh.size] at hf hc
    obtain ⟨u, hu⟩ : ∃ u, seg cells off 1 = [u] := by
      have := seg_length hf
      match hh : seg cells off 1, this with
      | [u], _ => exact ⟨u, rfl⟩
    exact ⟨u, run_loadVar_one tk.hd hb hu (by rw [← hk, ← h3, e']), Val.leaf hs (by rw [← hu]; exact hc)⟩

theorem give_load (hD : DOk P C) (h : Rep W0 F0 ρ s a w) {o : Oper} {T : Nat} {x : Operand} (hop : o.op = .load T x) {v : AV} (ho : (rdX x fun a => loadPg C T a).Out s v s') : Gives P W0 F0 o a w v s' := by
  obtain ⟨av, h1, ho⟩ := out_rdX h ho
  unfold loadPg at ho
  split at ho
  · rename_i q p
    obtain ⟨c, hc, hd, ho⟩ := ho
    dsimp only at ho
    split at ho
    · rename_i v' hv'
      obtain ⟨hl, rfl, rfl⟩ := out_bif ho
      obtain ⟨ad, hu, hx⟩ := h1.ref_eq
      obtain ⟨l, k, e, cells, T', fr, cs, g1, g2, g3, g4, g5, g6, g7, g8, g9⟩ := h.at_ref hx hc hd
      have hce := ce_at hv' g2 g5
      have hsh := at_off hv' g2
      have hseg : seg cells (l.off + k) v.sh.size = (cs.drop k).take e.size := by rw [hsh, seg_sub g9, g7]
      obtain ⟨u, hr, hval⟩ := run_load_ce (w := w) (E := ⟨w, s'.o, ρ⟩) hD hl g4 (off := l.off + k) (by rw [hsh]; omega) (by rw [hseg]; exact hce)
      refine ⟨u, w, ρ, .inl ?_, h, hval⟩
      simp [execOp, hop, hu, Instr.loadAt, Instr.sureAddr, g3, hr]
    · exact ho.elim
  · rename_i t y
    obtain ⟨hl, rfl, rfl⟩ := out_bif ho
    obtain ⟨ad, hu, b, off, cells, T', fr, hx, hF, hb, hs, hp⟩ := h1.pref_eq
    obtain ⟨u, hr, hval⟩ := run_load_ce (w := w) (E := ⟨w, s'.o, ρ⟩) hD hl hb (off := off) (by rw [toAV_size]; exact hs) (by rw [toAV_size]; exact ce_toAV hp)
    refine ⟨u, w, ρ, .inl ?_, h, hval⟩
    simp [execOp, hop, hu, Instr.loadAt, Instr.sureAddr, hx, hr]
  · exact ho.elim

/-- cells of an object written -/
theorem Rep.wr_part (h : Rep W0 F0 ρ s a w) {o : Nat} {c c' : AV} (hc : s.o o = some c) (hd : c.dead = false) {l : Loc} (hl : ρ o = some l) {cells : Array Value} {T : TypeId} {fr : Nat × Nat} {cs vs : List Value} {k : Nat}
    (hb : w.heap[l.b]? = some (.cells cells T fr)) (g5 : Ce ⟨w, s.o, ρ⟩ c cs) (g6 : l.off + cs.length ≤ cells.size) (g7 : seg cells l.off cs.length = cs) (g8 : Unfrozen fr l.off cells.size) (hk : k + vs.length ≤ cs.length)
    (hs : c'.sh = c.sh) (hc' : Ce ⟨w, s.o, ρ⟩ c' (spl cs k vs)) : Rep W0 F0 ρ (s.setO o c') a (w.setRow l.b (splA cells (l.off + k) vs)) := by
  refine h.wr hc (AV.dead_sh hd) hs hl hb (splA_size (by omega)).symm hc' (by rw [spl_length hk]; exact g6) ?_ g8
  rw [spl_length hk, seg_splA_same hk g6, g7]

theorem give_store (hD : DOk P C) (h : Rep W0 F0 ρ s a w) {o : Oper} {T : Nat} {x y : Operand} (hop : o.op = .store T x y) {v : AV} (ho : (rdX x fun a => rdX y fun v => storePg C T a v).Out s v s') : Gives P W0 F0 o a w v s' := by
  obtain ⟨av, h1, ho⟩ := out_rdX h ho
  obtain ⟨bv, h2, ho⟩ := out_rdX h ho
  unfold storePg at ho
  split at ho
  · rename_i q p _
    obtain ⟨c, hc, hd, ho⟩ := ho
    dsimp only at ho
    split at ho
    · rename_i c' hc'
      obtain ⟨hb, ⟨_, rfl, rfl⟩⟩ := out_bif ho
      simp only [Bool.and_eq_true, Bool.not_eq_true'] at hb
      obtain ⟨⟨⟨b1, b2⟩, b3⟩, b4⟩ := hb
      have b1 := Nat.eq_of_beq_eq_true b1
      obtain ⟨tk⟩ := tok_of_kind hD (T := T) (fun e => by rw [e] at b4; simp [TK.ok] at b4)
      obtain ⟨hce, _⟩ := h2.cells (AV.dead_sh b2) (by rintro t xs rfl; simp [bkB] at b3)
      obtain ⟨ad, hu, hx⟩ := h1.ref_eq
      obtain ⟨l, k, e, cells, T', fr, cs, g1, g2, g3, g4, g5, g6, g7, g8, g9⟩ := h.at_ref hx hc hd
      obtain ⟨p1, p2⟩ := ce_put hc' g2 g5 hce
      have hr := h.wr_part hc hd g1 g4 g5 g6 g7 g8 (by rw [p2]; exact g9) (put_sh hc') p1
      refine ⟨undef, _, ρ, .inr ⟨?_, rfl⟩, hr, Val.top _⟩
      have hlen := hce.len
      have hst := run_storeCells_spl (P := P) (b := l.b) (T := T') (fr := fr) (l.off + k) (a.eval y).cells.toList 0 cells w g4 (by rw [p2]; omega) (fun i hi hj => g8 i (by omega) hj) (ce_one hce)
      have hsz : (a.eval y).cells.size = tk.i.size := by rw [tk.size, ← b1, ← hlen]; simp
      simp [execOp, hop, hu, Instr.storeAt, Instr.sureAddr, g3, storeVar, run_sizeOf tk.hi, hsz, hst]
    · exact ho.elim
  · exact ho.elim

theorem give_nilCheck (h : Rep W0 F0 ρ s a w) {o : Oper} {x : Operand} (hop : o.op = .nilCheck x) {v : AV}
    (ho : (rdX x fun v => match v with | .ref o p => (.ret (.ref o p) : Pg AV) | .pref t x => .ret (.pref t x) | _ => .fail).Out s v s') : Gives P W0 F0 o a w v s' := by
  obtain ⟨av, h1, ho⟩ := out_rdX h ho
  split at ho
  · obtain ⟨rfl, rfl⟩ := ho
    obtain ⟨ad, hu, hx⟩ := h1.ref_eq
    exact ⟨a.eval x, w, ρ, .inl (by simp [execOp, hop, hu]), h, h1⟩
  · obtain ⟨rfl, rfl⟩ := ho
    obtain ⟨ad, hu, hx⟩ := h1.pref_eq
    exact ⟨a.eval x, w, ρ, .inl (by simp [execOp, hop, hu]), h, h1⟩
  · exact ho.elim

theorem run_eqGuard_int (op : BinOp) (t : TypeId) (x y : Operand) (k k' : IntKind) (m n : Int) : (eqGuard op t x y (.int k m) (.int k' n)).run P w = .ok () w := by
  cases op <;> simp [eqGuard]
theorem run_eqGuard_str (op : BinOp) (t : TypeId) (x y : Operand) (m n : ByteArray) : (eqGuard op t x y (.string m) (.string n)).run P w = .ok () w := by
  cases op <;> simp [eqGuard]
theorem run_eqGuard_bool (op : BinOp) (t : TypeId) (x y : Operand) (m n : Bool) : (eqGuard op t x y (.bool m) (.bool n)).run P w = .ok () w := by
  cases op <;> simp [eqGuard]
theorem run_eqGuard_ptr (op : BinOp) (t : TypeId) (x y : Operand) (m n : Option Addr) : (eqGuard op t x y (.pointer m) (.pointer n)).run P w = .ok () w := by
  cases op <;> simp [eqGuard]

theorem give_binI (h : Rep W0 F0 ρ s a w) {o : Oper} {op : BinOp} {T T' : Nat} {x y : Operand} (hop : o.op = .binOp op T x y T') {k : IntKind} {m n : Int} (hx : a.eval x = .int k m) (hy : a.eval y = .int k n)
    (h1 : op ≠ .shl) (h2 : op ≠ .shr) {v : AV} (ho : (binI op k m n).Out s v s') : Gives P W0 F0 o a w v s' := by
  cases op <;> simp only [binI] at ho
  case shl => exact absurd rfl h1
  case shr => exact absurd rfl h2
  case quo =>
    obtain ⟨hn, rfl, rfl⟩ := ho
    exact ⟨_, w, ρ, .inl (by simp [execOp, hop, hx, hy, run_eqGuard_int, binOp, Op.intDiv, hn]), h, Val.mkInt _ _ _⟩
  case rem =>
    obtain ⟨hn, rfl, rfl⟩ := ho
    exact ⟨_, w, ρ, .inl (by simp [execOp, hop, hx, hy, run_eqGuard_int, binOp, Op.intDiv, hn]), h, Val.mkInt _ _ _⟩
  case add => obtain ⟨rfl, rfl⟩ := ho; exact ⟨_, w, ρ, .inl (by simp [execOp, hop, hx, hy, run_eqGuard_int, binOp, Op.intArith]), h, Val.mkInt _ _ _⟩
  case sub => obtain ⟨rfl, rfl⟩ := ho; exact ⟨_, w, ρ, .inl (by simp [execOp, hop, hx, hy, run_eqGuard_int, binOp, Op.intArith]), h, Val.mkInt _ _ _⟩
  case mul => obtain ⟨rfl, rfl⟩ := ho; exact ⟨_, w, ρ, .inl (by simp [execOp, hop, hx, hy, run_eqGuard_int, binOp, Op.intArith]), h, Val.mkInt _ _ _⟩
  case and => obtain ⟨rfl, rfl⟩ := ho; exact ⟨_, w, ρ, .inl (by simp [execOp, hop, hx, hy, run_eqGuard_int, binOp, Op.intBits]; rfl), h, Val.mkInt _ _ _⟩
  case or => obtain ⟨rfl, rfl⟩ := ho; exact ⟨_, w, ρ, .inl (by simp [execOp, hop, hx, hy, run_eqGuard_int, binOp, Op.intBits]; rfl), h, Val.mkInt _ _ _⟩
  case xor => obtain ⟨rfl, rfl⟩ := ho; exact ⟨_, w, ρ, .inl (by simp [execOp, hop, hx, hy, run_eqGuard_int, binOp, Op.intBits]; rfl), h, Val.mkInt _ _ _⟩
  case andNot => obtain ⟨rfl, rfl⟩ := ho; exact ⟨_, w, ρ, .inl (by simp [execOp, hop, hx, hy, run_eqGuard_int, binOp, Op.intBits, bandn]), h, Val.mkInt _ _ _⟩
  case eql => obtain ⟨rfl, rfl⟩ := ho; exact ⟨_, w, ρ, .inl (by simp [execOp, hop, hx, hy, run_eqGuard_int, binOp, Op.intCmp]), h, Val.mkBool _ _⟩
  case neq => obtain ⟨rfl, rfl⟩ := ho; exact ⟨_, w, ρ, .inl (by simp [execOp, hop, hx, hy, run_eqGuard_int, binOp, Op.intCmp]), h, Val.mkBool _ _⟩
  case lss => obtain ⟨rfl, rfl⟩ := ho; exact ⟨_, w, ρ, .inl (by simp [execOp, hop, hx, hy, run_eqGuard_int, binOp, Op.intCmp]), h, Val.mkBool _ _⟩
  case leq => obtain ⟨rfl, rfl⟩ := ho; exact ⟨_, w, ρ, .inl (by simp [execOp, hop, hx, hy, run_eqGuard_int, binOp, Op.intCmp]), h, Val.mkBool _ _⟩
  case gtr => obtain ⟨rfl, rfl⟩ := ho; exact ⟨_, w, ρ, .inl (by simp [execOp, hop, hx, hy, run_eqGuard_int, binOp, Op.intCmp]), h, Val.mkBool _ _⟩
  case geq => obtain ⟨rfl, rfl⟩ := ho; exact ⟨_, w, ρ, .inl (by simp [execOp, hop, hx, hy, run_eqGuard_int, binOp, Op.intCmp]), h, Val.mkBool _ _⟩

theorem give_binS (h : Rep W0 F0 ρ s a w) {o : Oper} {op : BinOp} {T T' : Nat} {x y : Operand} (hop : o.op = .binOp op T x y T') {m n : ByteArray} (hx : a.eval x = .string m) (hy : a.eval y = .string n)
    {v : AV} (ho : (binS op m n).Out s v s') : Gives P W0 F0 o a w v s' := by
  cases op <;> simp only [binS] at ho
  case add =>
    obtain ⟨hn, rfl, rfl⟩ := ho
    have : ¬ ((m.size + n.size : Nat) : Int) > IntKind.i64.max := by
      show ¬ (9223372036854775807 : Int) < _
      omega
    refine ⟨_, w, ρ, .inl (by simp [execOp, hop, hx, hy, run_eqGuard_str, binOp, Op.stringOp]; omega), h, Val.mkStr _ _⟩
  all_goals first
    | exact ho.elim
    | (obtain ⟨rfl, rfl⟩ := ho; exact ⟨_, w, ρ, .inl (by simp [execOp, hop, hx, hy, run_eqGuard_str, binOp, Op.stringOp, strEq, strLt]; done), h, Val.mkBool _ _⟩)

theorem give_shift (h : Rep W0 F0 ρ s a w) {o : Oper} {T T' : Nat} {x y : Operand} {k k' : IntKind} {m n : Int} (hx : a.eval x = .int k m) (hy : a.eval y = .int k' n) (hn : 0 ≤ n) :
    (o.op = .binOp .shl T x y T' → Gives P W0 F0 o a w (.int k (shlI k m n)) s) ∧ (o.op = .binOp .shr T x y T' → Gives P W0 F0 o a w (.int k (shrI k m n)) s) := by
  refine ⟨fun hop => ⟨_, w, ρ, .inl ?_, h, Val.mkInt _ _ _⟩, fun hop => ⟨_, w, ρ, .inl ?_, h, Val.mkInt _ _ _⟩⟩
  · simp [execOp, hop, hx, hy, run_eqGuard_int, binOp, Op.shift, show ¬ n < 0 by omega, shlI]
  · simp [execOp, hop, hx, hy, run_eqGuard_int, binOp, Op.shift, show ¬ n < 0 by omega, shrI]
end
end Go.Ev

/- Each operation of the evaluator tells what the machine's operation does: tests, conversions, parts of slices, fields, elements. -/
set_option linter.unusedVariables false
set_option linter.unusedSimpArgs false
namespace Go.Ev
open Go
section
variable {P : Program} {C : Cx} {W0 : World} {F0 : Base} {ρ : Nat → Option Loc} {s s' : St} {a : Act} {w : World}

theorem kindB_int {k : IntKind} {d : TypeDesc} (h : kindB (.int k) d = true) : d = .int k := by
  cases d <;> simp_all [kindB]
theorem kindB_bool {d : TypeDesc} (h : kindB .bool d = true) : d = .bool := by cases d <;> simp_all [kindB]
theorem kindB_str {d : TypeDesc} (h : kindB .str d = true) : d = .string := by cases d <;> simp_all [kindB]
theorem kindB_ptr {e : Nat} {d : TypeDesc} (h : kindB (.ptr e) d = true) : d = .pointer e := by
  cases d <;> simp [kindB] at h
  rw [h]
theorem kindB_sl {e : Nat} {d : TypeDesc} (h : kindB (.sl e) d = true) : d = .slice e := by
  cases d <;> simp [kindB] at h
  rw [h]
theorem kindB_arr {n e : Nat} {d : TypeDesc} (h : kindB (.arr n e) d = true) : d = .array n e := by
  cases d <;> simp [kindB] at h
  rw [h.1, h.2]
theorem kindB_st {fs : List (Nat × Nat)} {d : TypeDesc} (h : kindB (.st fs) d = true) : ∃ fields, d = .struct fields ∧ fields.toList.map (fun f => (f.type, f.offset)) = fs := by
  cases d <;> simp [kindB] at h
  exact ⟨_, rfl, h⟩

/-- the description of a type that the evaluator knows -/
theorem und (hD : DOk P C) {T : Nat} {k : TK} (hk : (C.D T).k = k) (ho : k ≠ .other) : ∃ d, P.underlying T = some d ∧ kindB k d = true := by
  obtain ⟨tk⟩ := tok_of_kind hD (T := T) (by rw [hk]; exact ho)
  exact ⟨tk.d, tk.hd, hk ▸ tk.kind⟩

theorem run_equal_bool {T : TypeId} (hd : P.underlying T = some .bool) (x y : Bool) : (Op.equal T (.bool x) (.bool y)).run P w = .ok (x == y) w := by
  unfold Op.equal
  show (Op.equalIn (9999 + 1) T (.bool x) (.bool y)).run P w = _
  unfold Op.equalIn
  simp only [Sem.run_bind, run_underlying hd, Result.andThen_ok]
  rfl

theorem give_bool (hD : DOk P C) (h : Rep W0 F0 ρ s a w) {o : Oper} {T T' : Nat} {x y : Operand} {m n : Bool} (hk : (C.D T).k = .bool) (hx : a.eval x = .bool m) (hy : a.eval y = .bool n) :
    (o.op = .binOp .eql T x y T' → Gives P W0 F0 o a w (.bool (m == n)) s) ∧ (o.op = .binOp .neq T x y T' → Gives P W0 F0 o a w (.bool (!(m == n))) s) := by
  obtain ⟨d, hd, hkd⟩ := und hD hk (by simp)
  rw [kindB_bool hkd] at hd
  refine ⟨fun hop => ⟨_, w, ρ, .inl ?_, h, Val.mkBool _ _⟩, fun hop => ⟨_, w, ρ, .inl ?_, h, Val.mkBool _ _⟩⟩
  · simp [execOp, hop, hx, hy, run_eqGuard_bool, binOp, run_equal_bool hd]
  · simp [execOp, hop, hx, hy, run_eqGuard_bool, binOp, run_equal_bool hd]

theorem run_equal_ptr {T e : TypeId} (hd : P.underlying T = some (.pointer e)) (x y : Option Addr) (hxy : x = none ∨ y = none) :
    (Op.equal T (.pointer x) (.pointer y)).run P w = .ok (x.isNone && y.isNone) w := by
  unfold Op.equal
  show (Op.equalIn (9999 + 1) T (.pointer x) (.pointer y)).run P w = _
  unfold Op.equalIn
  simp only [Sem.run_bind, run_underlying hd, Result.andThen_ok]
  rcases hxy with rfl | rfl
  · rfl
  · cases x <;> rfl

theorem give_ptr (hD : DOk P C) (h : Rep W0 F0 ρ s a w) {o : Oper} {T T' e : Nat} {x y : Operand} {m n : Option Addr} (hk : (C.D T).k = .ptr e) (hx : a.eval x = .pointer m) (hy : a.eval y = .pointer n) (hmn : m = none ∨ n = none) :
    (o.op = .binOp .eql T x y T' → Gives P W0 F0 o a w (.bool (m.isNone && n.isNone)) s) ∧ (o.op = .binOp .neq T x y T' → Gives P W0 F0 o a w (.bool (!(m.isNone && n.isNone))) s) := by
  obtain ⟨d, hd, hkd⟩ := und hD hk (by simp)
  rw [kindB_ptr hkd] at hd
  have he := run_equal_ptr (w := w) hd m n hmn
  refine ⟨fun hop => ⟨_, w, ρ, .inl ?_, h, Val.mkBool _ _⟩, fun hop => ⟨_, w, ρ, .inl ?_, h, Val.mkBool _ _⟩⟩
  · rcases hmn with rfl | rfl
    · cases n <;> simp [execOp, hop, hx, hy, run_eqGuard_ptr, binOp, he] <;> simp_all
    · cases m <;> simp [execOp, hop, hx, hy, run_eqGuard_ptr, binOp, he] <;> simp_all
  · rcases hmn with rfl | rfl
    · cases n <;> simp [execOp, hop, hx, hy, run_eqGuard_ptr, binOp, he] <;> simp_all
    · cases m <;> simp [execOp, hop, hx, hy, run_eqGuard_ptr, binOp, he] <;> simp_all

theorem give_unOp (h : Rep W0 F0 ρ s a w) {o : Oper} {op : UnOp} {T : Nat} {x : Operand} (hop : o.op = .unOp op T x) {v : AV} (ho : (rdX x fun a => unPg op a).Out s v s') : Gives P W0 F0 o a w v s' := by
  obtain ⟨av, h1, ho⟩ := out_rdX h ho
  unfold unPg at ho
  split at ho
  · obtain ⟨rfl, rfl⟩ := ho
    exact ⟨_, w, ρ, .inl (by simp [execOp, hop, h1.bool_eq, Op.unary]), h, Val.mkBool _ _⟩
  · obtain ⟨rfl, rfl⟩ := ho
    exact ⟨_, w, ρ, .inl (by simp [execOp, hop, h1.int_eq, Op.unary, Op.intArith]), h, Val.mkInt _ _ _⟩
  · exact ho.elim

theorem win_length {α : Type} (xs : List α) {off len : Int} (h0 : 0 ≤ off) (h1 : 0 ≤ len) (h : off + len ≤ xs.length) : ((win xs off len).length : Int) = len := by
  simp only [win, List.length_take, List.length_drop]; omega

theorem win_getD {t : Ty} (xs : List t.den) {off len : Int} (h0 : 0 ≤ off) {i : Nat} (hi : (i : Int) < len) : (win xs off len).getD i t.dflt = xs.getD (off.toNat + i) t.dflt := by
  simp only [win, List.getD, List.getElem?_take, List.getElem?_drop]
  rw [if_pos (by omega)]

/-- the cells of a window of a row -/
theorem pu_row {w : World} {F : Nat → Prop} {t : Ty} {n : Nat} {xs : List t.den} {cs : List Value} (hp : Pu w F (.arr n t) xs cs) {i : Nat} (hi : i < n) : Pu w F t (xs.getD i t.dflt) ((cs.drop (i * t.size)).take t.size) := hp.2.2 i hi

theorem mul_succ_le {i n k : Nat} (h : i < n) : i * k + k ≤ n * k := by
  have := Nat.mul_le_mul_right k (Nat.succ_le_of_lt h)
  rwa [Nat.succ_mul] at this

/-- a slice's window of an object, as a slice that is only read -/
theorem pu_window (h : Rep W0 F0 ρ s a w) {F : Nat → Prop} {o : Nat} {c : AV} (hc : s.o o = some c) (hd : c.dead = false) (hF : ∀ b, F b → ∃ o' c' l', o' ≠ o ∧ s.o o' = some c' ∧ c'.sh ≠ .bad ∧ ρ o' = some l' ∧ l'.b = b)
    {l : Loc} {k : Nat} {t : Ty} {m : Nat} {xs : List t.den} {cs : List Value} {cells : Array Value} {T : TypeId} {fr : Nat × Nat} (g1 : ρ o = some l) (g4 : w.heap[l.b]? = some (.cells cells T fr)) (g6 : l.off + cs.length ≤ cells.size) (g7 : seg cells l.off cs.length = cs)
    (hk : k + m * t.size ≤ cs.length) (hp : Pu w (Env.F ⟨w, s.o, ρ⟩) (.arr m t) xs ((cs.drop k).take (m * t.size))) {off len : Int} (h0 : 0 ≤ off) (hm : off + len ≤ m)
    {n cap : Nat} (hn : (n : Int) = len) (hcap : n ≤ cap) {ad : Option Addr} (had : n = 0 ∨ ad = some ⟨l.b, l.off + k + off.toNat * t.size, none⟩) :
    Pu w F (.sl t) (win xs off len) [.slice ad n cap] := by
  have hlen : (win xs off len).length = n := by
    have := win_length xs (off := off) (len := len) h0 (by omega) (by rw [hp.1]; exact hm)
    omega
  refine ⟨ad, cap, by rw [hlen], by rw [hlen]; exact hcap, ?_⟩
  rcases had with e | e
  · left; exact List.eq_nil_of_length_eq_zero (by omega)
  · right
    refine ⟨l.b, _, cells, T, fr, e, ?_, g4, ?_, ?_⟩
    · intro hb
      obtain ⟨o', c', l', hne, e1, e2, e3, e4⟩ := hF _ hb
      exact hne (h.inj o' o c' c l' l e1 hc e2 (AV.dead_sh hd) e3 g1 e4)
    · rw [hlen]
      have : (off.toNat + n) * t.size ≤ m * t.size := Nat.mul_le_mul_right _ (by omega)
      rw [Nat.add_mul] at this
      omega
    · intro i hi
      rw [hlen] at hi
      rw [win_getD xs h0 (by omega)]
      have hi' : off.toNat + i < m := by omega
      have := pu_row hp hi'
      have hle := mul_succ_le (k := t.size) hi'
      rw [drop_take_drop_take _ _ _ _ _ hle] at this
      rw [Nat.add_mul] at this hle
      rw [show l.off + k + off.toNat * t.size + i * t.size = l.off + (k + (off.toNat * t.size + i * t.size)) by omega, seg_sub (n := cs.length) (by omega), g7]
      exact this.mono fun b x hb hx => ⟨hx, fun hFb => by
        obtain ⟨o', c', l', hne, e1, e2, e3, e4⟩ := hF _ hFb
        exact hb ⟨o', c', l', e1, e2, e3, e4⟩⟩
end
end Go.Ev

/- Slices that are only read; parts of slices and strings; fields and elements. -/
set_option linter.unusedVariables false
set_option linter.unusedSimpArgs false
namespace Go.Ev
open Go
section
variable {P : Program} {C : Cx} {W0 : World} {F0 : Base} {ρ : Nat → Option Loc} {s s' : St} {a : Act} {w : World}

/-- F holds of blocks of objects outside of l alone -/
def Outside (s : St) (ρ : Nat → Option Loc) (l : List Nat) (F : Nat → Prop) : Prop := ∀ b, F b → ∃ o' c' l', o' ∉ l ∧ s.o o' = some c' ∧ c'.sh ≠ .bad ∧ ρ o' = some l' ∧ l'.b = b

theorem Outside.mono {l l' : List Nat} {F : Nat → Prop} (h : Outside s ρ l F) (hs : ∀ o, o ∈ l' → o ∈ l) : Outside s ρ l' F := fun b hb => by
  obtain ⟨o, c, k, h1, h2⟩ := h b hb
  exact ⟨o, c, k, fun h3 => h1 (hs o h3), h2⟩
theorem Outside.sub {l : List Nat} {F : Nat → Prop} (h : Outside s ρ l F) {b : Nat} (hb : F b) : Env.F ⟨w, s.o, ρ⟩ b := by
  obtain ⟨o, c, k, h1, h2, h3, h4, h5⟩ := h b hb
  exact ⟨o, c, k, h2, h3, h4, h5⟩
theorem Outside.pu {l : List Nat} {F : Nat → Prop} (h : Outside s ρ l F) {t : Ty} {x : t.den} {cs : List Value} (hp : Pu w (Env.F ⟨w, s.o, ρ⟩) t x cs) : Pu w F t x cs :=
  hp.mono fun b o hb ho => ⟨ho, fun hF => hb (h.sub hF)⟩

/-- a view of a list: what it is, and as a slice that is only read -/
theorem Rep.view (h : Rep W0 F0 ρ s a w) {o : Nat} {p : List PS} {off len : Int} {u : Value} (hv : ViewOf ⟨w, s.o, ρ⟩ o p off len u) {c d : AV} (hc : s.o o = some c) (hd : c.dead = false) (hat : AV.at p c = some d)
    {t : Ty} {m : Nat} {xs : List t.den} (hdd : d = .arr t m xs ∨ (d = .bk t xs ∧ m = xs.length)) :
    ∃ n ad cap, u = .slice ad n cap ∧ (n : Int) = len ∧ n ≤ cap ∧ 0 ≤ off ∧ off + len ≤ m ∧
      (cap = 0 ∨ ∃ l k cells T fr cs, ρ o = some l ∧ ad = some ⟨l.b, l.off + k + off.toNat * t.size, none⟩ ∧ w.heap[l.b]? = some (.cells cells T fr) ∧ l.off + k + (off.toNat + cap) * t.size ≤ cells.size ∧
        Sh.off p c.sh = some (k, d.sh) ∧ Ce ⟨w, s.o, ρ⟩ c cs ∧ l.off + cs.length ≤ cells.size ∧ seg cells l.off cs.length = cs ∧ Unfrozen fr l.off cells.size ∧ k + m * t.size ≤ cs.length ∧
        Pu w (Env.F ⟨w, s.o, ρ⟩) (.arr m t) xs ((cs.drop k).take (m * t.size))) ∧
      (∀ F, Outside s ρ [o] F → Pu w F (.sl t) (win xs off len) [u]) := by
  obtain ⟨n, ad, cap, hu, hn, hcap, c', hc', hk⟩ := hv
  have : c' = c := by
    have h' : s.o o = some c' := hc'
    rw [hc] at h'; exact (Option.some.inj h').symm
  subst this
  rcases hk with hk | ⟨k, t', m', hoff, h0, hm, hk⟩
  · exact absurd hk (AV.dead_sh hd)
  · have hsh : d.sh = .arr t m ∨ d.sh = .bk t m := by
      rcases hdd with rfl | ⟨rfl, rfl⟩
      · exact .inl rfl
      · exact .inr rfl
    obtain ⟨rfl, rfl, hoff'⟩ : t' = t ∧ m' = m ∧ Sh.off p c'.sh = some (k, d.sh) := by
      rcases hoff with hoff | hoff
      · have := at_off hat hoff
        rw [this] at hsh
        rcases hsh with e | e
        · cases e; exact ⟨rfl, rfl, by rw [this]; exact hoff⟩
        · cases e
      · have := at_off hat hoff
        rw [this] at hsh
        rcases hsh with e | e
        · cases e
        · cases e; exact ⟨rfl, rfl, by rw [this]; exact hoff⟩
    have hsz : d.sh.size = m' * t'.size := by rcases hsh with e | e <;> rw [e] <;> rfl
    rcases hk with hk | ⟨l, cells, T, fr, hl, had, hb, hs⟩
    · refine ⟨n, ad, cap, hu, hn, hcap, h0, hm, .inl hk, fun F hF => ?_⟩
      have : n = 0 := by omega
      subst this
      have hl0 : len = 0 := by omega
      subst hl0
      have : win xs off 0 = [] := by simp [win]
      rw [this, hu]
      exact ⟨ad, cap, rfl, by simp, .inl rfl⟩
    · rcases h.ob o c' hc (AV.dead_sh hd) with ⟨l', cells', T', fr', cs, g1, g2, g3, g4, g5, g6⟩ | ⟨g1, _⟩
      · have e1 : l' = l := by
          have h1 : ρ o = some l' := g1
          have h2 : ρ o = some l := hl
          rw [h1] at h2; exact Option.some.inj h2
        subst e1
        have e2 : cells' = cells ∧ T' = T ∧ fr' = fr := by
          have h1 : w.heap[l'.b]? = some (.cells cells' T' fr') := g2
          have h2 : w.heap[l'.b]? = some (.cells cells T fr) := hb
          rw [h1] at h2; cases h2; exact ⟨rfl, rfl, rfl⟩
        obtain ⟨rfl, rfl, rfl⟩ := e2
        have hle := off_le hoff'
        rw [hsz, ← g3.len] at hle
        have hce := ce_at hat hoff' g3
        rw [hsz] at hce
        have hp : Pu w (Env.F ⟨w, s.o, ρ⟩) (.arr m' t') xs ((cs.drop k).take (m' * t'.size)) := by
          rcases hdd with rfl | ⟨rfl, rfl⟩
          · exact hce
          · exact hce
        refine ⟨n, ad, cap, hu, hn, hcap, h0, hm, .inr ⟨l', k, cells', T', fr', cs, g1, had, g2, hs, hoff', g3, g4, g5, g6, hle, hp⟩, fun F hF => ?_⟩
        rw [hu]
        exact pu_window h hc hd (fun b hb => by
          obtain ⟨o', c', l', h1, h2⟩ := hF b hb
          exact ⟨o', c', l', by simpa using h1, h2⟩) g1 g2 g4 g5 hle hp h0 hm hn hcap (.inr had)
      · have h1 : ρ o = none := g1
        have h2 : ρ o = some l := hl
        rw [h1] at h2; cases h2

/-- a row of the function's own -/
theorem Rep.full (h : Rep W0 F0 ρ s a w) {o : Nat} {u : Value} (hv : FullOf ⟨w, s.o, ρ⟩ o u) {t : Ty} {xs : List t.den} (hc : s.o o = some (.bk t xs)) :
    ∃ ad cap, u = .slice ad xs.length cap ∧ xs.length ≤ cap ∧
      ((cap = 0 ∧ xs = []) ∨ ∃ l cells T fr cs, ρ o = some l ∧ ad = some ⟨l.b, l.off, none⟩ ∧ w.heap[l.b]? = some (.cells cells T fr) ∧ l.off + cap * t.size ≤ cells.size ∧
        l.off + cs.length ≤ cells.size ∧ seg cells l.off cs.length = cs ∧ Unfrozen fr l.off cells.size ∧ Pu w (Env.F ⟨w, s.o, ρ⟩) (.arr xs.length t) xs cs) ∧
      (∀ F, Outside s ρ [o] F → Pu w F (.sl t) xs [u]) := by
  obtain ⟨n, ad, cap, hu, hcap, c', hc', hk⟩ := hv
  have : c' = .bk t xs := by
    have h' : s.o o = some c' := hc'
    rw [hc] at h'; exact (Option.some.inj h').symm
  subst this
  rcases hk with hk | ⟨t', hsh, hk⟩
  · simp [AV.sh] at hk
  · simp only [AV.sh, Sh.bk.injEq] at hsh
    obtain ⟨rfl, rfl⟩ := hsh
    rcases hk with hk | ⟨l, cells, T, fr, hl, had, hb, hs⟩
    · have hx : xs = [] := List.eq_nil_of_length_eq_zero (by omega)
      refine ⟨ad, cap, hu, hcap, .inl ⟨hk, hx⟩, fun F hF => ?_⟩
      subst hx
      rw [hu]
      exact ⟨ad, cap, rfl, hcap, .inl rfl⟩
    · rcases h.ob o _ hc (by simp [AV.sh]) with ⟨l', cells', T', fr', cs, g1, g2, g3, g4, g5, g6⟩ | ⟨g1, _⟩
      · have e1 : l' = l := by
          have h1 : ρ o = some l' := g1
          have h2 : ρ o = some l := hl
          rw [h1] at h2; exact Option.some.inj h2
        subst e1
        have e2 : cells' = cells ∧ T' = T ∧ fr' = fr := by
          have h1 : w.heap[l'.b]? = some (.cells cells' T' fr') := g2
          have h2 : w.heap[l'.b]? = some (.cells cells T fr) := hb
          rw [h1] at h2; cases h2; exact ⟨rfl, rfl, rfl⟩
        obtain ⟨rfl, rfl, rfl⟩ := e2
        have g3' : Pu w (Env.F ⟨w, s.o, ρ⟩) (.arr xs.length t) xs cs := g3
        refine ⟨ad, cap, hu, hcap, .inr ⟨l', cells', T', fr', cs, g1, had, g2, hs, g4, g5, g6, g3'⟩, fun F hF => ?_⟩
        rw [hu]
        have := pu_window (t := t) (ad := ad) (off := 0) (len := xs.length) (k := 0) (m := xs.length) h hc rfl (fun b hb => by
          obtain ⟨o', c', l', h1, h2⟩ := hF b hb
          exact ⟨o', c', l', by simpa using h1, h2⟩) g1 g2 g4 g5 (by rw [g3'.2.1]; omega) (by rw [List.drop_zero, List.take_of_length_le (by rw [g3'.2.1]; omega)]; exact g3') (by omega) (by omega) rfl hcap
          (.inr (by rw [had]; simp))
        have hw : win xs 0 (xs.length : Int) = xs := by simp [win]
        rwa [hw] at this
      · have h1 : ρ o = none := g1
        have h2 : ρ o = some l := hl
        rw [h1] at h2; cases h2

theorem castL_pu {t u : Ty} {xs : List t.den} {ys : List u.den} (h : castL (u := u) xs = some ys) {w : World} {F : Nat → Prop} : (∀ cs, Pu w F (.sl t) xs cs → Pu w F (.sl u) ys cs) ∧
    ∀ off len cs, Pu w F (.sl t) (win xs off len) cs → Pu w F (.sl u) (win ys off len) cs := by
  obtain ⟨rfl, rfl⟩ := castL_some h
  exact ⟨fun _ h => h, fun _ _ _ h => h⟩

theorem out_ofP {α β : Type} {m : Option β} {k : β → Pg α} {r : α} (h : (ofP m k).Out s r s') : ∃ x, m = some x ∧ (k x).Out s r s' := by
  cases m with
  | none => exact h.elim
  | some x => exact ⟨x, rfl, h⟩

theorem exP_out {α : Type} (h : Rep W0 F0 ρ s a w) {r : α} : ∀ {t : Ty} {v : AV} {k : t.den → List Nat → Pg α} {cs : List Value}, Ce ⟨w, s.o, ρ⟩ v cs → (exP t v k).Out s r s' →
    ∃ x l, (k x l).Out s r s' ∧ v.sh = shT t ∧ ∀ F, Outside s ρ l F → Pu w F t x cs := by
  intro t
  have base : ∀ {t : Ty} {v : AV} {k : t.den → List Nat → Pg α} {cs : List Value}, Ce ⟨w, s.o, ρ⟩ v cs → (ofP (ofAV t v) fun x => k x []).Out s r s' →
      ∃ x l, (k x l).Out s r s' ∧ v.sh = shT t ∧ ∀ F, Outside s ρ l F → Pu w F t x cs := by
    intro t v k cs hc ho
    obtain ⟨x, hx, ho⟩ := out_ofP ho
    obtain ⟨h1, h2⟩ := pu_ofAV hx hc
    exact ⟨x, [], ho, h2, fun F hF => hF.pu h1⟩
  induction t with
  | pair A B iha ihb =>
    intro v k cs hc ho
    simp only [exP] at ho
    split at ho
    · obtain ⟨x, l, ho, hs, hp⟩ := iha hc.1 ho
      obtain ⟨y, m, ho, hs', hp'⟩ := ihb hc.2 ho
      refine ⟨(x, y), l ++ m, ho, by simp [AV.sh, shT, hs, hs'], fun F hF => ?_⟩
      have e : A.size = (shT A).size := (shT_size A).symm
      refine ⟨?_, ?_⟩
      · rw [e, ← hs]; exact hp F (hF.mono fun o ho => List.mem_append_left _ ho)
      · rw [e, ← hs]; exact hp' F (hF.mono fun o ho => List.mem_append_right _ ho)
    · exact ho.elim
  | sl t ih =>
    intro v k cs hc ho
    simp only [exP] at ho
    split at ho
    · obtain ⟨c, hcc, hd, ho⟩ := ho
      obtain ⟨u, rfl, hv⟩ := hc
      dsimp only at ho
      split at ho
      · rename_i hat
        obtain ⟨ys, hys, ho⟩ := out_ofP ho
        obtain ⟨_, _, _, _, _, _, _, _, _, hp⟩ := h.view hv hcc hd hat (.inl rfl)
        exact ⟨_, _, ho, rfl, fun F hF => (castL_pu hys).2 _ _ _ (hp F hF)⟩
      · rename_i hat
        obtain ⟨ys, hys, ho⟩ := out_ofP ho
        obtain ⟨_, _, _, _, _, _, _, _, _, hp⟩ := h.view hv hcc hd hat (.inr ⟨rfl, rfl⟩)
        exact ⟨_, _, ho, rfl, fun F hF => (castL_pu hys).2 _ _ _ (hp F hF)⟩
      · exact ho.elim
    · obtain ⟨c, hcc, hd, ho⟩ := ho
      obtain ⟨u, rfl, hv⟩ := hc
      dsimp only at ho
      split at ho
      · obtain ⟨ys, hys, ho⟩ := out_ofP ho
        obtain ⟨_, _, _, _, _, hp⟩ := h.full hv hcc
        exact ⟨_, _, ho, rfl, fun F hF => (castL_pu hys).1 _ (hp F hF)⟩
      · exact ho.elim
    · exact base hc ho
  | int i => intro v k cs hc ho; exact base hc ho
  | bool => intro v k cs hc ho; exact base hc ho
  | str => intro v k cs hc ho; exact base hc ho
  | nl => intro v k cs hc ho; exact base hc ho
  | arr n t ih => intro v k cs hc ho; exact base hc ho

theorem out_len (h : Rep W0 F0 ρ s a w) {v r : AV} {u : Value} (hv : Val ⟨w, s.o, ρ⟩ v u) (ho : (lenPg v).Out s r s') : s' = s ∧ ∃ n : Nat, r = .int .i64 n ∧ ((∃ b, u = .string b ∧ n = b.size ∧ v = .str b) ∨ ∃ ad cap, u = .slice ad n cap) := by
  unfold lenPg at ho
  split at ho
  · obtain ⟨rfl, rfl⟩ := ho
    exact ⟨rfl, _, rfl, .inl ⟨_, hv.str_eq, rfl, rfl⟩⟩
  · obtain ⟨rfl, rfl⟩ := ho
    obtain ⟨ad, cap, e, _⟩ := hv.lst_eq
    simp at e
    exact ⟨rfl, _, rfl, .inr ⟨ad, cap, e⟩⟩
  · obtain ⟨rfl, rfl⟩ := ho
    exact ⟨rfl, 0, rfl, .inr ⟨_, _, hv.nils_eq⟩⟩
  · obtain ⟨rfl, rfl⟩ := ho
    obtain ⟨n, ad, cap, e, hn, _⟩ := hv.view_eq
    exact ⟨rfl, n, by rw [hn], .inr ⟨ad, cap, e⟩⟩
  · obtain ⟨c, hc, hd, ho⟩ := ho
    dsimp only at ho
    split at ho
    · obtain ⟨rfl, rfl⟩ := ho
      obtain ⟨ad, cap, e, _⟩ := h.full hv.full_eq hc
      exact ⟨rfl, _, rfl, .inr ⟨ad, cap, e⟩⟩
    · exact ho.elim
  · obtain ⟨rfl, rfl⟩ := ho
    obtain ⟨a, e, _⟩ := hv.ce rfl
    exact ⟨rfl, _, rfl, .inr ⟨some a, _, by simpa using e⟩⟩
  · exact ho.elim
end
end Go.Ev

/- Parts of slices and strings, fields, elements, results of several values, conversions. -/
set_option linter.unusedVariables false
set_option linter.unusedSimpArgs false
namespace Go.Ev
open Go
section
variable {P : Program} {C : Cx} {W0 : World} {F0 : Base} {ρ : Nat → Option Loc} {s s' : St} {a : Act} {w : World}

theorem give_len (hD : DOk P C) (h : Rep W0 F0 ρ s a w) {o : Oper} {c : Call} {v r : AV} {x : Operand} (hop : o.op = .call c) (hcal : c.callee = .builtin .len) (hargs : c.args.toList = [x]) (hv : Val ⟨w, s.o, ρ⟩ v (a.eval x))
    {T : Nat} (hT : c.argTypes.toList = [T]) (hk : (C.D T).k = .str ∨ ∃ e, (C.D T).k = .sl e) (ho : (lenPg v).Out s r s') (hk1 : ∀ b, v = .str b → (C.D T).k = .str) (hk2 : (∀ b, v ≠ .str b) → ∃ e, (C.D T).k = .sl e) : Gives P W0 F0 o a w r s' := by
  obtain ⟨rfl, n, rfl, hu⟩ := out_len h hv ho
  have hargs' : c.args = #[x] := by rw [← Array.toArray_toList (xs := c.args), hargs]
  have hT' : c.argTypes = #[T] := by rw [← Array.toArray_toList (xs := c.argTypes), hT]
  refine ⟨.int .i64 n, w, ρ, .inl ?_, h, Val.mkInt _ _ _⟩
  rcases hu with ⟨b, hb, hn, hvb⟩ | ⟨ad, cap, hb⟩
  · obtain ⟨d, hd, hkd⟩ := und hD (hk1 b hvb) (by simp)
    rw [kindB_str hkd] at hd
    simp [execOp, hop, resolve, hcal, hargs', hT', invoke, builtin, Builtin.len_, hb, run_underlying hd, goInt, hn]
  · have : ∀ b, v ≠ .str b := by
      rintro b rfl
      rw [hv.str_eq] at hb; cases hb
    obtain ⟨e, he⟩ := hk2 this
    obtain ⟨d, hd, hkd⟩ := und hD he (by simp)
    rw [kindB_sl hkd] at hd
    simp [execOp, hop, resolve, hcal, hargs', hT', invoke, builtin, Builtin.len_, hb, run_underlying hd, goInt]

theorem give_extract (h : Rep W0 F0 ρ s a w) {o : Oper} {x : Operand} {i : Nat} (hop : o.op = .extract x i) {v : AV}
    (ho : (rdX x fun a => match a with | .tup c => (match c.nth i with | some v => (.ret v : Pg AV) | none => .fail) | _ => .fail).Out s v s') : Gives P W0 F0 o a w v s' := by
  obtain ⟨av, h1, ho⟩ := out_rdX h ho
  split at ho
  · rename_i c
    split at ho
    · rename_i v' hv'
      obtain ⟨rfl, rfl⟩ := ho
      have key : ∀ {c : AV} {us : List Value} {i : Nat}, ValT ⟨w, s'.o, ρ⟩ c us → c.nth i = some v → ∃ u, us[i]? = some u ∧ Val1 ⟨w, s'.o, ρ⟩ v u := by
        intro c
        induction c with
        | cons A B iha ihb =>
          intro us i hu hn
          obtain ⟨u, r, rfl, k1, k2⟩ := hu
          cases i with
          | zero => simp [AV.nth] at hn; subst hn; exact ⟨u, rfl, k1⟩
          | succ i => simp only [AV.nth] at hn; simpa using ihb k2 hn
        | _ => intro us i hu hn; simp [AV.nth] at hn
      rcases h1 with (h1 | ⟨h1, _⟩ | ⟨_, h1, _⟩) | ⟨c', us, hc', hu, ht⟩
      · cases h1
      · simp [AV.agg] at h1
      · simp [AV.sh] at h1
      · cases hc'
        obtain ⟨u, hu', k⟩ := key ht hv'
        refine ⟨u, w, ρ, .inl ?_, h, .inl k⟩
        have : us[i]? = some u := by simpa using hu'
        simp [execOp, hop, hu, Instr.extract, this]
    · exact ho.elim
  · exact ho.elim

theorem run_bound {x : Value} {n : Int} {k : IntKind} (hx : x = .int k n) {y : Nat} (h0 : 0 ≤ n) (h1 : n ≤ y) (code : BoundsCode) : (Instr.sliceBound x y code).run P w = .ok n.toNat w := by
  subst hx
  simp [Instr.sliceBound, asIntOf, h0, h1]

theorem out_cut {E : Env} {n : Nat} {lo hi : Option AV} {k : Int → Int → Pg AV} {r : AV} (ho : (cutPg n lo hi k).Out s r s') {vlo vhi : Option Value}
    (h1 : (lo = none ∧ vlo = none) ∨ ∃ v u, lo = some v ∧ vlo = some u ∧ Val E v u) (h2 : (hi = none ∧ vhi = none) ∨ ∃ v u, hi = some v ∧ vhi = some u ∧ Val E v u) :
    ∃ l h : Int, 0 ≤ l ∧ l ≤ h ∧ h ≤ n ∧ (k l h).Out s r s' ∧ (∀ isSlice (cap : Nat), n ≤ cap → (Instr.sliceBounds isSlice n cap vlo vhi none).run P w = .ok (l.toNat, h.toNat, cap) w) := by
  unfold cutPg at ho
  split at ho
  · rename_i l hh hl hh'
    obtain ⟨a1, a2, a3, a4, ho⟩ := ho
    refine ⟨l, hh, a3, a4, a2, ho, fun isSlice cap hcap => ?_⟩
    have hi' : (vhi = none ∧ hh = n) ∨ ∃ k, vhi = some (.int k hh) := by
      rcases h2 with ⟨rfl, rfl⟩ | ⟨v, u, rfl, rfl, hv⟩
      · simp [bound] at hh'; exact .inl ⟨rfl, hh'.symm⟩
      · cases v <;> simp [bound] at hh'
        subst hh'
        exact .inr ⟨_, by rw [hv.int_eq]⟩
    have lo' : (vlo = none ∧ l = 0) ∨ ∃ k, vlo = some (.int k l) := by
      rcases h1 with ⟨rfl, rfl⟩ | ⟨v, u, rfl, rfl, hv⟩
      · simp [bound] at hl; exact .inl ⟨rfl, hl.symm⟩
      · cases v <;> simp [bound] at hl
        subst hl
        exact .inr ⟨_, by rw [hv.int_eq]⟩
    unfold Instr.sliceBounds
    rcases hi' with ⟨rfl, rfl⟩ | ⟨k2, rfl⟩ <;> rcases lo' with ⟨rfl, rfl⟩ | ⟨k1, rfl⟩
    · simp
    · simp [run_bound rfl a3 a4]
    · simp [run_bound (P := P) (w := w) (rfl : Value.int k2 hh = .int k2 hh) a1 (y := cap) (by omega)]
    · simp [run_bound (P := P) (w := w) (rfl : Value.int k2 hh = .int k2 hh) a1 (y := cap) (by omega), run_bound (P := P) (w := w) (rfl : Value.int k1 l = .int k1 l) a3 (y := hh.toNat) (by omega)]
  · exact ho.elim

theorem extract_lo_hi (h : Rep W0 F0 ρ s a w) {r : AV} {lo hi : Option Operand} {k : Option AV → Option AV → Pg AV} (ho : (rdXo lo fun l => rdXo hi fun h => k l h).Out s r s') :
    ∃ l hh, (k l hh).Out s r s' ∧ ((l = none ∧ lo.map a.eval = none) ∨ ∃ v u, l = some v ∧ lo.map a.eval = some u ∧ Val ⟨w, s.o, ρ⟩ v u) ∧ ((hh = none ∧ hi.map a.eval = none) ∨ ∃ v u, hh = some v ∧ hi.map a.eval = some u ∧ Val ⟨w, s.o, ρ⟩ v u) := by
  rcases out_rdXo h ho with ⟨e1, ho1⟩ | ⟨y, av, e1, hv, ho1⟩ <;> rcases out_rdXo h ho1 with ⟨e2, ho2⟩ | ⟨z, bv, e2, hv', ho2⟩
  · exact ⟨_, _, ho2, .inl ⟨rfl, by rw [e1]; rfl⟩, .inl ⟨rfl, by rw [e2]; rfl⟩⟩
  · exact ⟨_, _, ho2, .inl ⟨rfl, by rw [e1]; rfl⟩, .inr ⟨_, _, rfl, by rw [e2]; rfl, hv'⟩⟩
  · exact ⟨_, _, ho2, .inr ⟨_, _, rfl, by rw [e1]; rfl, hv⟩, .inl ⟨rfl, by rw [e2]; rfl⟩⟩
  · exact ⟨_, _, ho2, .inr ⟨_, _, rfl, by rw [e1]; rfl, hv⟩, .inr ⟨_, _, rfl, by rw [e2]; rfl, hv'⟩⟩

/-- a part of a slice that is only read -/
theorem pu_part {F : Nat → Prop} {t : Ty} {xs : List t.den} {n cap : Nat} {ad : Option Addr} (hp : Pu w F (.sl t) xs [.slice ad n cap]) {l h : Int} (h0 : 0 ≤ l) (h1 : l ≤ h) (h2 : h ≤ xs.length) :
    Pu w F (.sl t) (win xs l (h - l)) [.slice (if cap = l.toNat then ad else ad.map (·.add (l.toNat * t.size))) (h.toNat - l.toNat) (cap - l.toNat)] := by
  obtain ⟨a', cap', hc, hcap, hp⟩ := hp
  simp only [List.cons.injEq, Value.slice.injEq, and_true] at hc
  obtain ⟨rfl, rfl, rfl⟩ := hc
  have hlen : (win xs l (h - l)).length = h.toNat - l.toNat := by
    have := win_length xs (off := l) (len := h - l) h0 (by omega) (by omega)
    omega
  refine ⟨_, _, by rw [hlen], by rw [hlen]; omega, ?_⟩
  by_cases e : h.toNat - l.toNat = 0
  · left; exact List.eq_nil_of_length_eq_zero (by rw [hlen]; exact e)
  · right
    rcases hp with hp | ⟨b, off, cells, T, fr, rfl, hF, hb, hs, hel⟩
    · subst hp; simp at h2; omega
    · have hne : ¬ cap = l.toNat := by omega
      refine ⟨b, off + l.toNat * t.size, cells, T, fr, by rw [if_neg hne]; simp [addr_add], hF, hb, ?_, ?_⟩
      · rw [hlen]
        have : (l.toNat + (h.toNat - l.toNat)) * t.size ≤ xs.length * t.size := Nat.mul_le_mul_right _ (by omega)
        rw [Nat.add_mul] at this; omega
      · intro i hi
        rw [hlen] at hi
        rw [win_getD xs h0 (by omega)]
        have := hel (l.toNat + i) (by omega)
        rwa [Nat.add_mul, ← Nat.add_assoc] at this

theorem run_slice_sl {T e : TypeId} {i : TypeInfo} (hd : P.underlying T = some (.slice e)) (hi : P.info? e = some i) {ad : Option Addr} {n cap : Nat} {lo hi' : Option Value} {l h : Nat}
    (hb : (Instr.sliceBounds true n cap lo hi' none).run P w = .ok (l, h, cap) w) :
    (Instr.sliceAt T (.slice ad n cap) lo hi' none).run P w = .ok (.slice (if cap = l then ad else ad.map (·.add (l * i.size))) (h - l) (cap - l)) w := by
  simp [Instr.sliceAt, Instr.slice, run_underlying hd, hb, run_sizeOf hi]

/-- a part of a view -/
theorem view_part {E : Env} {o : Nat} {p : List PS} {off len : Int} {n cap : Nat} {ad : Option Addr} (hv : ViewOf E o p off len (.slice ad n cap)) {c : AV} (hc : E.s o = some c) {k : Nat} {t : Ty} {m : Nat}
    (hsh : Sh.off p c.sh = some (k, .arr t m) ∨ Sh.off p c.sh = some (k, .bk t m)) {l h : Int} (h0 : 0 ≤ l) (h1 : l ≤ h) (h2 : h ≤ len) :
    ViewOf E o p (off + l) (h - l) (.slice (if cap = l.toNat then ad else ad.map (·.add (l.toNat * t.size))) (h.toNat - l.toNat) (cap - l.toNat)) := by
  obtain ⟨n', a', cap', hu, hn, hcap, c', hc', hk⟩ := hv
  simp only [Value.slice.injEq] at hu
  obtain ⟨rfl, rfl, rfl⟩ := hu
  rw [hc] at hc'
  cases hc'
  refine ⟨_, _, _, rfl, by omega, by omega, c, hc, ?_⟩
  rcases hk with hk | ⟨k', t', m', hsh', g0, gm, hk⟩
  · exact .inl hk
  · have e : k' = k ∧ t' = t ∧ m' = m := by
      rcases hsh with e | e <;> rcases hsh' with e' | e' <;> rw [e] at e' <;> simp at e' <;> exact ⟨e'.1.symm, e'.2.1.symm, e'.2.2.symm⟩
    obtain ⟨rfl, rfl, rfl⟩ := e
    refine .inr ⟨k', t', m', hsh, by omega, by omega, ?_⟩
    by_cases hz : cap = l.toNat
    · left; omega
    · rcases hk with hk | ⟨loc, cells, T, fr, hl, rfl, hb, hs⟩
      · left; omega
      · right
        have e3 : (off + l).toNat = off.toNat + l.toNat := by omega
        refine ⟨loc, cells, T, fr, hl, ?_, hb, ?_⟩
        · rw [if_neg hz, e3, Nat.add_mul]
          simp [addr_add, Nat.add_assoc]
        · rw [e3]
          rwa [show off.toNat + l.toNat + (cap - l.toNat) = off.toNat + cap by omega]

theorem give_slice (hD : DOk P C) (hDs : ∀ T e, ((C.D T).k = .sl e ∨ ∃ m, (C.D T).k = .arr m e) → (C.D e).k ≠ .other) (h : Rep W0 F0 ρ s a w) {o : Oper} {T : Nat} {x : Operand} {lo hi : Option Operand} (hop : o.op = .slice T x lo hi none) {v : AV}
    (ho : (rdX x fun a => rdXo lo fun l => rdXo hi fun h => slicePg C T a l h).Out s v s') : Gives P W0 F0 o a w v s' := by
  obtain ⟨av, h1, ho1⟩ := out_rdX h ho
  clear ho
  obtain ⟨l, hh, ho, hlo, hhi⟩ := extract_lo_hi h ho1
  clear ho1
  have fin : ∀ {u : Value}, (Instr.sliceAt T (a.eval x) (lo.map a.eval) (hi.map a.eval) none).run P w = .ok u w → Val ⟨w, s.o, ρ⟩ v u → s' = s → Gives P W0 F0 o a w v s' := by
    rintro u hr hv rfl
    exact ⟨u, w, ρ, .inl (by simp [execOp, hop, hr]), h, hv⟩
  unfold slicePg at ho
  split at ho
  · -- an array
    rename_i q p
    split at ho
    · rename_i m e hk
      obtain ⟨c, hc, hd, ho⟩ := ho
      dsimp only at ho
      split at ho
      · rename_i t n xs hat
        obtain ⟨⟨hsz, rfl⟩, ho⟩ := out_ifp ho
        obtain ⟨l', h', b0, b1, b2, ho, hb⟩ := out_cut (P := P) (w := w) ho hlo hhi
        obtain ⟨rfl, rfl⟩ := ho
        obtain ⟨d, hdu, hkd⟩ := und hD hk (by simp)
        rw [kindB_arr hkd] at hdu
        obtain ⟨tke⟩ := tok_of_kind hD (hDs T e (.inr ⟨_, hk⟩))
        obtain ⟨ad, hu, hx⟩ := h1.ref_eq
        obtain ⟨loc, k, e', cells, T', fr, cs, g1, g2, g3, g4, g5, g6, g7, g8, g9⟩ := h.at_ref hx hc hd
        have hsh := at_off hat g2
        simp only [AV.sh] at hsh
        subst hsh
        refine fin (u := .slice (some (if m = l'.toNat then ad else ad.add (l'.toNat * tke.i.size))) (h'.toNat - l'.toNat) (m - l'.toNat)) ?_ (Val.leaf rfl ⟨_, rfl, ?_⟩) rfl
        · have := hb false m (Nat.le_refl _)
          simp [Instr.sliceAt, hu, run_underlying hdu, Instr.sureAddr, this, run_sizeOf tke.hi]
        · refine ⟨_, _, _, rfl, by omega, by omega, c, hc, .inr ⟨k, t, m, .inl g2, by omega, by omega, ?_⟩⟩
          by_cases hz : m = l'.toNat
          · left; omega
          · right
            refine ⟨loc, cells, T', fr, g1, ?_, g4, ?_⟩
            · rw [if_neg hz, g3, addr_add, tke.size, ← hsz]
            · simp only [Sh.size] at g9
              have : l'.toNat + (m - l'.toNat) = m := by omega
              rw [this]; omega
      · exact ho.elim
    · exact ho.elim
  · -- an array behind a pointer that is only read
    rename_i n t xs
    split at ho
    · rename_i m e hk
      obtain ⟨⟨hsz, rfl⟩, ho⟩ := out_ifp ho
      obtain ⟨l', h', b0, b1, b2, ho, hb⟩ := out_cut (P := P) (w := w) ho hlo hhi
      obtain ⟨rfl, rfl⟩ := ho
      obtain ⟨d, hdu, hkd⟩ := und hD hk (by simp)
      rw [kindB_arr hkd] at hdu
      obtain ⟨tke⟩ := tok_of_kind hD (hDs T e (.inr ⟨_, hk⟩))
      obtain ⟨ad, hu, b, off, cells, T', fr, hx, hF, hbb, hs, hp⟩ := h1.pref_eq
      have hlx : List.length xs = m := hp.1
      have hps : Pu w (Env.F ⟨w, s'.o, ρ⟩) (.sl t) xs [.slice (some ad) m m] := by
        refine ⟨some ad, m, by rw [hlx], by omega, .inr ⟨b, off, cells, T', fr, by rw [hx], hF, hbb, by rw [hlx]; exact hs, fun i hi => ?_⟩⟩
        have := hp.2.2 i (by omega)
        have hle := mul_succ_le (k := t.size) (show i < m by omega)
        have hs' : off + m * t.size ≤ cells.size := hs
        rw [seg_sub (n := m * t.size) hle]
        exact this
      refine fin (u := .slice (if m = l'.toNat then some ad else (some ad).map (·.add (l'.toNat * t.size))) (h'.toNat - l'.toNat) (m - l'.toNat)) ?_ (Val.leaf rfl (pu_part hps b0 b1 (by omega))) rfl
      have := hb false m (Nat.le_refl _)
      by_cases hz : m = l'.toNat
      · simp [Instr.sliceAt, hu, run_underlying hdu, Instr.sureAddr, this, run_sizeOf tke.hi, ← hz]
      · simp [Instr.sliceAt, hu, run_underlying hdu, Instr.sureAddr, this, run_sizeOf tke.hi, hz, tke.size, ← hsz]
    · exact ho.elim
  · -- a string
    rename_i b
    split at ho
    · rename_i hk
      obtain ⟨l', h', b0, b1, b2, ho, hb⟩ := out_cut (P := P) (w := w) ho hlo hhi
      obtain ⟨rfl, rfl⟩ := ho
      obtain ⟨d, hdu, hkd⟩ := und hD hk (by simp)
      rw [kindB_str hkd] at hdu
      refine fin (u := .string (b.extract l'.toNat h'.toNat)) ?_ (Val.mkStr _ _) rfl
      have := hb false b.size (Nat.le_refl _)
      simp [Instr.sliceAt, Instr.slice, h1.str_eq, run_underlying hdu, this]
    · exact ho.elim
  · -- a slice that is only read
    rename_i t xs
    split at ho
    · rename_i e hk
      obtain ⟨hsz, ho⟩ := out_ifp ho
      obtain ⟨l', h', b0, b1, b2, ho, hb⟩ := out_cut (P := P) (w := w) ho hlo hhi
      obtain ⟨rfl, rfl⟩ := ho
      obtain ⟨d, hdu, hkd⟩ := und hD hk (by simp)
      rw [kindB_sl hkd] at hdu
      obtain ⟨tke⟩ := tok_of_kind hD (hDs T e (.inl hk))
      have hp := h1.lst_eq
      obtain ⟨ad, cap, hu, hcap, _⟩ := hp
      have hu' : a.eval x = .slice ad xs.length cap := by simpa using hu
      have hp := h1.lst_eq
      rw [hu'] at hp
      refine fin (u := .slice (if cap = l'.toNat then ad else ad.map (·.add (l'.toNat * t.size))) (h'.toNat - l'.toNat) (cap - l'.toNat)) ?_ (Val.leaf rfl (pu_part hp b0 b1 b2)) rfl
      rw [hu', run_slice_sl hdu tke.hi (hb true cap hcap), tke.size, ← hsz]
    · exact ho.elim
  · -- a view
    rename_i q p off len
    split at ho
    · rename_i e hk
      obtain ⟨c, hc, hd, ho⟩ := ho
      dsimp only at ho
      obtain ⟨d, hdu, hkd⟩ := und hD hk (by simp)
      rw [kindB_sl hkd] at hdu
      obtain ⟨tke⟩ := tok_of_kind hD (hDs T e (.inl hk))
      have key : ∀ {t : Ty} {m : Nat} {xs : List t.den} {d : AV}, AV.at p c = some d → (d = .arr t m xs ∨ (d = .bk t xs ∧ m = xs.length)) → t.size = (C.D e).size →
          (cutPg len l hh fun l h => .ret (.view q p (off + l) (h - l))).Out s v s' → Gives P W0 F0 o a w v s' := by
        intro t m xs d hat hdd hsz ho
        obtain ⟨n, ad, cap, hu, hn, hcap, h0, hm, hk, _⟩ := h.view h1.view_eq hc hd hat hdd
        rw [← hn] at ho
        obtain ⟨l', h', b0, b1, b2, ho, hb⟩ := out_cut (P := P) (w := w) ho hlo hhi
        obtain ⟨rfl, rfl⟩ := ho
        have hvw := h1.view_eq
        rw [hu] at hvw
        refine fin (u := .slice (if cap = l'.toNat then ad else ad.map (·.add (l'.toNat * t.size))) (h'.toNat - l'.toNat) (cap - l'.toNat)) ?_ (Val.leaf rfl ⟨_, rfl, ?_⟩) rfl
        · rw [hu, run_slice_sl hdu tke.hi (hb true cap hcap), tke.size, ← hsz]
        · obtain ⟨n', a', cap', hu', hn', hcap', c', hc', hk'⟩ := h1.view_eq
          have hc'' : s'.o q = some c' := hc'
          rw [hc] at hc''
          cases hc''
          rcases hk' with hk' | ⟨k', t', m', hsh', _, _, _⟩
          · exact absurd hk' (AV.dead_sh hd)
          · have e1 : t' = t ∧ m' = m := by
              have hds : d.sh = .arr t m ∨ d.sh = .bk t m := by
                rcases hdd with rfl | ⟨rfl, rfl⟩
                · exact .inl rfl
                · exact .inr rfl
              rcases hsh' with e' | e' <;> have := at_off hat e' <;> rw [this] at hds <;> rcases hds with g | g <;> cases g <;> exact ⟨rfl, rfl⟩
            obtain ⟨rfl, rfl⟩ := e1
            exact view_part hvw hc hsh' b0 b1 (by omega)
      split at ho
      · rename_i t m xs hat
        obtain ⟨hsz, ho⟩ := out_ifp ho
        exact key hat (.inl rfl) hsz ho
      · rename_i t xs hat
        obtain ⟨hsz, ho⟩ := out_ifp ho
        exact key hat (.inr ⟨rfl, rfl⟩) hsz ho
      · exact ho.elim
    · exact ho.elim
  · -- a row of one's own
    rename_i q
    split at ho
    · rename_i e hk
      obtain ⟨c, hc, hd, ho⟩ := ho
      dsimp only at ho
      split at ho
      · rename_i t xs
        obtain ⟨hsz, ho⟩ := out_ifp ho
        obtain ⟨l', h', b0, b1, b2, ho, hb⟩ := out_cut (P := P) (w := w) ho hlo hhi
        obtain ⟨rfl, rfl⟩ := ho
        obtain ⟨d, hdu, hkd⟩ := und hD hk (by simp)
        rw [kindB_sl hkd] at hdu
        obtain ⟨tke⟩ := tok_of_kind hD (hDs T e (.inl hk))
        obtain ⟨ad, cap, hu, hcap, hk', _⟩ := h.full h1.full_eq hc
        refine fin (u := .slice (if cap = l'.toNat then ad else ad.map (·.add (l'.toNat * t.size))) (h'.toNat - l'.toNat) (cap - l'.toNat)) ?_ (Val.leaf rfl ⟨_, rfl, ?_⟩) rfl
        · rw [hu, run_slice_sl hdu tke.hi (hb true cap hcap), tke.size, ← hsz]
        · have hv0 : ViewOf ⟨w, s'.o, ρ⟩ q [] 0 xs.length (.slice ad xs.length cap) := by
            refine ⟨_, _, _, rfl, rfl, hcap, .bk t xs, hc, .inr ⟨0, t, xs.length, .inr rfl, by omega, by omega, ?_⟩⟩
            rcases hk' with ⟨hk', _⟩ | ⟨loc, cells, T', fr, cs, g1, g2, g3, g4, _⟩
            · exact .inl hk'
            · exact .inr ⟨loc, cells, T', fr, g1, by simp [g2], g3, by simpa using g4⟩
          have := view_part (E := ⟨w, s'.o, ρ⟩) (c := .bk t xs) (k := 0) (t := t) (m := xs.length) hv0 hc (.inr rfl) b0 b1 b2
          rwa [Int.zero_add] at this
      · exact ho.elim
    · exact ho.elim
  · -- nil
    split at ho
    · rename_i e hk
      obtain ⟨l', h', b0, b1, b2, ho, hb⟩ := out_cut (n := 0) (P := P) (w := w) ho hlo hhi
      obtain ⟨rfl, rfl⟩ := ho
      obtain ⟨d, hdu, hkd⟩ := und hD hk (by simp)
      rw [kindB_sl hkd] at hdu
      obtain ⟨tke⟩ := tok_of_kind hD (hDs T e (.inl hk))
      refine fin (u := .slice none 0 0) ?_ (Val.leaf rfl rfl) rfl
      rw [h1.nils_eq, run_slice_sl hdu tke.hi (hb true 0 (Nat.le_refl _))]
      have e1 : l'.toNat = 0 := by omega
      have e2 : h'.toNat = 0 := by omega
      simp [e1, e2]
    · exact ho.elim
  · exact ho.elim
end
end Go.Ev

/- Addresses of elements and fields; elements and fields of values; conversions. -/
set_option linter.unusedVariables false
set_option linter.unusedSimpArgs false
namespace Go.Ev
open Go
section
variable {P : Program} {C : Cx} {W0 : World} {F0 : Base} {ρ : Nat → Option Loc} {s s' : St} {a : Act} {w : World}

theorem off_append : ∀ {p q : List PS} {s : Sh} {k j : Nat} {e e' : Sh}, Sh.off p s = some (k, e) → Sh.off q e = some (j, e') → Sh.off (p ++ q) s = some (k + j, e') := by
  intro p
  induction p with
  | nil => intro q s k j e e' h1 h2; simp [Sh.off] at h1; obtain ⟨rfl, rfl⟩ := h1; simpa using h2
  | cons x p ih =>
    intro q s k j e e' h1 h2
    cases x with
    | fld i =>
      simp only [Sh.off] at h1
      split at h1
      · rename_i k' d hk'
        split at h1
        · rename_i j' e'' hj'
          simp at h1
          obtain ⟨rfl, rfl⟩ := h1
          simp only [List.cons_append, Sh.off, hk', ih hj' h2, Nat.add_assoc]
        · cases h1
      · cases h1
    | idx i =>
      have key : ∀ (t : Ty) (n : Nat), (if 0 ≤ i ∧ i < (n : Int) then (match Sh.off p (shT t) with | some (j, e) => some (i.toNat * t.size + j, e) | none => none) else none) = some (k, e) →
          (if 0 ≤ i ∧ i < (n : Int) then (match Sh.off (p ++ q) (shT t) with | some (j, e) => some (i.toNat * t.size + j, e) | none => none) else none) = some (k + j, e') := by
        intro t n h1
        split at h1
        · rename_i hi
          split at h1
          · rename_i j' e'' hj'
            simp at h1
            obtain ⟨rfl, rfl⟩ := h1
            rw [if_pos hi, ih hj' h2]
            simp [Nat.add_assoc]
          · cases h1
        · cases h1
      cases s with
      | arr t n => exact key t n h1
      | bk t n => exact key t n h1
      | _ => simp [Sh.off] at h1

theorem run_indexAt_arr {T e : TypeId} {m : Nat} {i : TypeInfo} (hd : P.underlying T = some (.array m e)) (hi : P.info? e = some i) {ad : Addr} {k : IntKind} {n : Int} (h0 : 0 ≤ n) (h1 : n < m) :
    (Instr.indexAt T (.pointer (some ad)) (.int k n)).run P w = .ok (.pointer (some (ad.add (n.toNat * i.size)))) w := by
  simp [Instr.indexAt, asIntOf, run_underlying hd, Instr.sureAddr, h0, h1, run_sizeOf hi]
theorem run_indexAt_sl {T e : TypeId} {m cap : Nat} {i : TypeInfo} (hd : P.underlying T = some (.slice e)) (hi : P.info? e = some i) {ad : Addr} {k : IntKind} {n : Int} (h0 : 0 ≤ n) (h1 : n < m) :
    (Instr.indexAt T (.slice (some ad) m cap) (.int k n)).run P w = .ok (.pointer (some (ad.add (n.toNat * i.size)))) w := by
  simp [Instr.indexAt, asIntOf, run_underlying hd, h0, h1, run_sizeOf hi]

theorem pref_elem {E : Env} {t : Ty} {xs : List t.den} {b off : Nat} {cells : Array Value} {T : TypeId} {fr : Nat × Nat} (hF : ¬ E.F b) (hb : E.w.heap[b]? = some (.cells cells T fr))
    {i : Nat} (hs : off + (i * t.size + t.size) ≤ cells.size) (hp : Pu E.w E.F t (xs.getD i t.dflt) (seg cells (off + i * t.size) t.size)) : PrefOf E t (xs.getD i t.dflt) ⟨b, off + i * t.size, none⟩ :=
  ⟨b, _, cells, T, fr, rfl, hF, hb, by omega, hp⟩

theorem give_index (hD : DOk P C) (hDs : ∀ T e, ((C.D T).k = .sl e ∨ ∃ m, (C.D T).k = .arr m e) → (C.D e).k ≠ .other) (h : Rep W0 F0 ρ s a w) {o : Oper} {T : Nat} {x y : Operand} (hop : o.op = .indexAddr T x y) {v : AV}
    (ho : (rdX x fun a => rdX y fun j => match j with | .int _ i => idxPg C T a i | _ => .fail).Out s v s') : Gives P W0 F0 o a w v s' := by
  obtain ⟨av, h1, ho1⟩ := out_rdX h ho
  clear ho
  obtain ⟨jv, h2, ho⟩ := out_rdX h ho1
  clear ho1
  split at ho
  · rename_i ki i
    have hj := h2.int_eq
    have fin : ∀ {u : Value}, (Instr.indexAt T (a.eval x) (a.eval y)).run P w = .ok u w → Val ⟨w, s.o, ρ⟩ v u → s' = s → Gives P W0 F0 o a w v s' := by
      rintro u hr hv rfl
      exact ⟨u, w, ρ, .inl (by simp [execOp, hop, hr]), h, hv⟩
    unfold idxPg at ho
    split at ho
    · rename_i q p
      split at ho
      · rename_i m e hk
        obtain ⟨c, hc, hd, ho⟩ := ho
        dsimp only at ho
        split at ho
        · rename_i t n xs hat
          obtain ⟨⟨hsz, rfl⟩, b0, b1, rfl, rfl⟩ := out_ifp ho
          obtain ⟨d, hdu, hkd⟩ := und hD hk (by simp)
          rw [kindB_arr hkd] at hdu
          obtain ⟨tke⟩ := tok_of_kind hD (hDs T e (.inr ⟨_, hk⟩))
          obtain ⟨ad, hu, hx⟩ := h1.ref_eq
          obtain ⟨loc, k, e', cells, T', fr, cs, g1, g2, g3, g4, g5, g6, g7, g8, g9⟩ := h.at_ref hx hc hd
          have hsh := at_off hat g2
          simp only [AV.sh] at hsh
          subst hsh
          refine fin (by rw [hu, hj, run_indexAt_arr hdu tke.hi b0 b1]) (Val.leaf rfl ⟨_, rfl, c, hc, .inr ⟨loc, k + i.toNat * t.size, shT t, g1, ?_, ?_⟩⟩) rfl
          · have : Sh.off [.idx i] (.arr t m) = some (i.toNat * t.size, shT t) := by
              simp [Sh.off, b0, b1]
            exact off_append g2 this
          · rw [g3, addr_add, tke.size, ← hsz, Nat.add_assoc]
        · exact ho.elim
      · exact ho.elim
    · rename_i n t xs
      split at ho
      · rename_i m e hk
        obtain ⟨⟨hsz, rfl⟩, b0, b1, rfl, rfl⟩ := out_ifp ho
        obtain ⟨d, hdu, hkd⟩ := und hD hk (by simp)
        rw [kindB_arr hkd] at hdu
        obtain ⟨tke⟩ := tok_of_kind hD (hDs T e (.inr ⟨_, hk⟩))
        obtain ⟨ad, hu, b, off, cells, T', fr, hx, hF, hb, hs, hp⟩ := h1.pref_eq
        have hi : i.toNat < m := by omega
        have hle := mul_succ_le (k := t.size) hi
        refine fin (by rw [hu, hj, run_indexAt_arr hdu tke.hi b0 b1]) (Val.leaf rfl ⟨_, rfl, ?_⟩) rfl
        rw [hx, addr_add, tke.size, ← hsz]
        simp only [Ty.size] at hs hp
        refine pref_elem hF hb (by omega) ?_
        rw [seg_sub (n := m * t.size) (by omega)]
        exact hp.2.2 _ hi
      · exact ho.elim
    · rename_i q p off len
      split at ho
      · rename_i e hk
        obtain ⟨c, hc, hd, ho⟩ := ho
        dsimp only at ho
        obtain ⟨d, hdu, hkd⟩ := und hD hk (by simp)
        rw [kindB_sl hkd] at hdu
        obtain ⟨tke⟩ := tok_of_kind hD (hDs T e (.inl hk))
        have key : ∀ {t : Ty} {m : Nat} {xs : List t.den} {d : AV}, AV.at p c = some d → (d = .arr t m xs ∨ (d = .bk t xs ∧ m = xs.length)) → t.size = (C.D e).size →
            (tst (0 ≤ i) <| tst (i < len) <| (.ret (.ref q (p ++ [.idx (off + i)])) : Pg AV)).Out s v s' → Gives P W0 F0 o a w v s' := by
          intro t m xs d hat hdd hsz ho
          obtain ⟨b0, b1, rfl, rfl⟩ := ho
          obtain ⟨n, ad, cap, hu, hn, hcap, h0, hm, hk, _⟩ := h.view h1.view_eq hc hd hat hdd
          rcases hk with hk | ⟨loc, k, cells, T', fr, cs, g1, rfl, g4, gs, g2, g5, g6, g7, g8, g9, gp⟩
          · omega
          · refine fin (by rw [hu, hj, run_indexAt_sl hdu tke.hi b0 (by omega)]) (Val.leaf rfl ⟨_, rfl, c, hc, .inr ⟨loc, k + (off + i).toNat * t.size, shT t, g1, ?_, ?_⟩⟩) rfl
            · have : Sh.off [.idx (off + i)] d.sh = some ((off + i).toNat * t.size, shT t) := by
                have hb : 0 ≤ off + i ∧ off + i < m := by omega
                rcases hdd with rfl | ⟨rfl, rfl⟩ <;> simp [AV.sh, Sh.off, hb]
              exact off_append g2 this
            · rw [addr_add, tke.size, ← hsz, show (off + i).toNat = off.toNat + i.toNat by omega, Nat.add_mul]
              simp [Nat.add_assoc]
        split at ho
        · rename_i t m xs hat
          obtain ⟨hsz, ho⟩ := out_ifp ho
          exact key hat (.inl rfl) hsz ho
        · rename_i t xs hat
          obtain ⟨hsz, ho⟩ := out_ifp ho
          exact key hat (.inr ⟨rfl, rfl⟩) hsz ho
        · exact ho.elim
      · exact ho.elim
    · rename_i q
      split at ho
      · rename_i e hk
        obtain ⟨c, hc, hd, ho⟩ := ho
        dsimp only at ho
        split at ho
        · rename_i t xs
          obtain ⟨hsz, b0, b1, rfl, rfl⟩ := out_ifp ho
          obtain ⟨d, hdu, hkd⟩ := und hD hk (by simp)
          rw [kindB_sl hkd] at hdu
          obtain ⟨tke⟩ := tok_of_kind hD (hDs T e (.inl hk))
          obtain ⟨ad, cap, hu, hcap, hk', _⟩ := h.full h1.full_eq hc
          rcases hk' with ⟨hk', hx⟩ | ⟨loc, cells, T', fr, cs, g1, rfl, g3, g4, _⟩
          · subst hx; simp at b1; omega
          · refine fin (by rw [hu, hj, run_indexAt_sl hdu tke.hi b0 b1]) (Val.leaf rfl ⟨_, rfl, .bk t xs, hc, .inr ⟨loc, i.toNat * t.size, shT t, g1, ?_, ?_⟩⟩) rfl
            · simp [AV.sh, Sh.off, b0, b1]
            · rw [addr_add, tke.size, ← hsz]
        · exact ho.elim
      · exact ho.elim
    · rename_i t xs
      split at ho
      · rename_i e hk
        obtain ⟨hsz, b0, b1, rfl, rfl⟩ := out_ifp ho
        obtain ⟨d, hdu, hkd⟩ := und hD hk (by simp)
        rw [kindB_sl hkd] at hdu
        obtain ⟨tke⟩ := tok_of_kind hD (hDs T e (.inl hk))
        obtain ⟨ad, cap, hu, hcap, hp⟩ := h1.lst_eq
        have hu' : a.eval x = .slice ad xs.length cap := by simpa using hu
        rcases hp with hp | ⟨b, off, cells, T', fr, rfl, hF, hb, hs, hp⟩
        · subst hp; simp at b1; omega
        · have hi : i.toNat < xs.length := by omega
          have hle := mul_succ_le (k := t.size) hi
          refine fin (by rw [hu', hj, run_indexAt_sl hdu tke.hi b0 b1]) (Val.leaf rfl ⟨_, rfl, ?_⟩) rfl
          rw [addr_add, tke.size, ← hsz]
          exact pref_elem hF hb (by omega) (hp _ hi)
      · exact ho.elim
    · rename_i q n
      split at ho
      · rename_i e hk
        obtain ⟨hsz, ho⟩ := out_ifp ho
        obtain ⟨c, hc, hd, ho⟩ := ho
        dsimp only at ho
        split at ho
        · rename_i kk ee hnth
          obtain ⟨rfl, b0, b1, rfl, rfl⟩ := out_ifp ho
          obtain ⟨d, hdu, hkd⟩ := und hD hk (by simp)
          rw [kindB_sl hkd] at hdu
          obtain ⟨tke⟩ := tok_of_kind hD (hDs T e (.inl hk))
          obtain ⟨ad, hu, hx⟩ := h1.ce rfl
          have hu : a.eval x = .slice (some ad) n n := by simpa using hu
          obtain ⟨loc, k, e', cells, T', fr, cs, g1, g2, g3, g4, g5, g6, g7, g8, g9⟩ := h.at_ref hx hc hd
          simp only [Sh.off, Option.some.injEq, Prod.mk.injEq] at g2
          obtain ⟨rfl, rfl⟩ := g2
          refine fin (by rw [hu, hj, run_indexAt_sl hdu tke.hi b0 b1]) (Val.leaf rfl ⟨_, rfl, c, hc, .inr ⟨loc, i.toNat, ee, g1, ?_, ?_⟩⟩) rfl
          · simp [Sh.off, hnth]
          · rw [g3, addr_add, tke.size, hsz]; simp
        · exact ho.elim
      · exact ho.elim
    · exact ho.elim
  · exact ho.elim

theorem run_fieldAt {T : TypeId} {fields : Array Field} {f : Nat} {fd : Field} {i : TypeInfo} (hd : P.underlying T = some (.struct fields)) (hf : fields[f]? = some fd) (hi : P.info? fd.type = some i) (hz : i.size ≠ 0) {b off : Nat} :
    (Instr.fieldAt T (.pointer (some ⟨b, off, none⟩)) f).run P w = .ok (.pointer (some ⟨b, off + fd.offset, none⟩)) w := by
  simp [Instr.fieldAt, run_underlying hd, hf, Instr.sureAddr, fieldPlace, run_sizeOf hi, hz, addr_add]

theorem st_field {fs : List (Nat × Nat)} {fields : Array Field} (h : fields.toList.map (fun f => (f.type, f.offset)) = fs) {f : Nat} {ft off : Nat} (hf : fs[f]? = some (ft, off)) :
    ∃ fd, fields[f]? = some fd ∧ fd.type = ft ∧ fd.offset = off := by
  subst h
  simp only [List.getElem?_map, Option.map_eq_some_iff] at hf
  obtain ⟨fd, h1, h2⟩ := hf
  simp at h2
  exact ⟨fd, by simpa using h1, h2.1, h2.2⟩

theorem out_prefFld : ∀ {t : Ty} {x : t.den} {f k off : Nat} {v : AV}, (prefFld t x f k off).Out s v s' → s' = s ∧ ∃ (t' : Ty) (x' : t'.den), v = .pref t' x' ∧ k ≤ off ∧ off + t'.size ≤ k + t.size ∧
      ∀ {w : World} {F : Nat → Prop} {cs : List Value}, Pu w F t x cs → Pu w F t' x' ((cs.drop (off - k)).take t'.size) := by
  intro t
  induction t with
  | pair A B iha ihb =>
    intro x f k off v ho
    cases f with
    | zero =>
      simp only [prefFld] at ho
      obtain ⟨rfl, rfl, rfl⟩ := out_ifp ho
      refine ⟨rfl, A, x.1, rfl, Nat.le_refl _, by simp [Ty.size], fun hp => ?_⟩
      simpa using hp.1
    | succ f =>
      simp only [prefFld] at ho
      obtain ⟨h1, t', x', h2, h3, h4, h5⟩ := ihb ho
      refine ⟨h1, t', x', h2, by omega, by simp only [Ty.size]; omega, fun hp => ?_⟩
      have := h5 hp.2
      rwa [List.drop_drop, show A.size + (off - (k + A.size)) = off - k by omega] at this
  | _ => intro x f k off v ho; simp only [prefFld] at ho; exact ho.elim

theorem give_fieldAddr (hD : DOk P C) (h : Rep W0 F0 ρ s a w) {o : Oper} {T f : Nat} {x : Operand} (hop : o.op = .fieldAddr T x f) {v : AV} (ho : (rdX x fun a => fldPg C T a f).Out s v s') : Gives P W0 F0 o a w v s' := by
  obtain ⟨av, h1, ho1⟩ := out_rdX h ho
  clear ho
  have ho := ho1
  clear ho1
  unfold fldPg at ho
  split at ho
  · rename_i fs hk
    split at ho
    · rename_i ft off hf
      obtain ⟨hb, ho⟩ := out_bif ho
      simp only [Bool.and_eq_true, Bool.not_eq_true'] at hb
      obtain ⟨d, hdu, hkd⟩ := und hD hk (by simp)
      obtain ⟨fields, rfl, hfs⟩ := kindB_st hkd
      obtain ⟨fd, e1, e2, e3⟩ := st_field hfs hf
      obtain ⟨tkf⟩ := tok_of_kind hD (T := ft) (fun e => by rw [e] at hb; simp [TK.ok] at hb)
      have hz : tkf.i.size ≠ 0 := by
        rw [tkf.size]; intro e; rw [e] at hb; simp at hb
      have hi : P.info? fd.type = some tkf.i := by rw [e2]; exact tkf.hi
      split at ho
      · rename_i q p
        obtain ⟨c, hc, hd, ho⟩ := ho
        dsimp only at ho
        split at ho
        · rename_i d' hat
          split at ho
          · rename_i k' e' hn
            obtain ⟨rfl, rfl, rfl⟩ := out_ifp ho
            obtain ⟨ad, hu, hx⟩ := h1.ref_eq
            obtain ⟨loc, k, e'', cells, T', fr, cs, g1, g2, g3, g4, g5, g6, g7, g8, g9⟩ := h.at_ref hx hc hd
            refine ⟨.pointer (some ⟨loc.b, loc.off + k + fd.offset, none⟩), w, ρ, .inl ?_, h, Val.leaf rfl ⟨_, rfl, c, hc, .inr ⟨loc, k + k', e', g1, ?_, ?_⟩⟩⟩
            · simp [execOp, hop, hu, g3, run_fieldAt hdu e1 hi hz]
            · have hsh := at_off hat g2
              subst hsh
              have : Sh.off [.fld f] d'.sh = some (k', e') := by simp [Sh.off, hn]
              exact off_append g2 this
            · rw [e3, Nat.add_assoc]
          · exact ho.elim
        · exact ho.elim
      · rename_i t y _
        obtain ⟨rfl, t', x', rfl, b1, b2, hp'⟩ := out_prefFld ho
        obtain ⟨ad, hu, b, off', cells, T', fr, hx, hF, hb, hs, hp⟩ := h1.pref_eq
        refine ⟨.pointer (some ⟨b, off' + fd.offset, none⟩), w, ρ, .inl ?_, h, Val.leaf rfl ⟨_, rfl, b, off' + fd.offset, cells, T', fr, rfl, hF, hb, ?_, ?_⟩⟩
        · simp [execOp, hop, hu, hx, run_fieldAt hdu e1 hi hz]
        · rw [e3]; omega
        · have := hp' hp
          rw [Nat.sub_zero] at this
          rwa [e3, seg_sub (n := t.size) (by omega)]
      · exact ho.elim
    · exact ho.elim
  · exact ho.elim

theorem run_part_ce (hD : DOk P C) {T : Nat} {v : AV} (hl : loadOk (C.D T) v = true) {E : Env} {cs : Array Value} {off : Nat} (hf : off + v.sh.size ≤ cs.size) (hc : Ce E v ((cs.toList.drop off).take v.sh.size)) :
    ∃ u, (part T cs off).run P w = .ok u w ∧ Val E v u := by
  obtain ⟨h0, ⟨tk⟩, h2, h3, h4⟩ := load_known hD hl
  have hk := kind_agg tk.kind
  by_cases e : v.agg = true
  · have ha : descAgg tk.d = true := by rw [← hk, ← h3, e]
    refine ⟨.agg (cs.extract off (off + tk.i.size)), ?_, .inl (.inr (.inl ⟨e, _, ?_, hc⟩))⟩
    · simp [part, run_isAgg tk.hd, ha, run_sizeOf tk.hi]
    · rw [tk.size, ← h2]
      congr 1
      apply Array.ext'
      simp [Array.toList_extract, List.extract_eq_take_drop]
  · have e' : v.agg = false := by simpa using e
    have hs := h4 e'
    rw [hs] at hf hc
    simp only [Sh.size] at hf hc
    have ha : descAgg tk.d = false := by rw [← hk, ← h3, e']
    have hlt : off < cs.size := by omega
    refine ⟨cs[off], ?_, Val.leaf hs ?_⟩
    · simp [part, run_isAgg tk.hd, ha, hlt]
    · have : (cs.toList.drop off).take 1 = [cs[off]] := by
        rw [List.take_one]
        simp [hlt]
      rwa [this] at hc

theorem give_field (hD : DOk P C) (h : Rep W0 F0 ρ s a w) {o : Oper} {T f : Nat} {x : Operand} (hop : o.op = .field T x f) {v : AV} (ho : (rdX x fun a => fieldPg C T a f).Out s v s') : Gives P W0 F0 o a w v s' := by
  obtain ⟨av, h1, ho1⟩ := out_rdX h ho
  clear ho
  have ho := ho1
  clear ho1
  unfold fieldPg at ho
  split at ho
  · rename_i fs hk
    split at ho
    · rename_i ft off hf
      split at ho
      · rename_i v' hv'
        split at ho
        · rename_i k e hn
          obtain ⟨hb, rfl, rfl⟩ := out_bif ho
          simp only [Bool.and_eq_true] at hb
          have hko := Nat.eq_of_beq_eq_true hb.1
          subst hko
          obtain ⟨d, hdu, hkd⟩ := und hD hk (by simp)
          obtain ⟨fields, rfl, hfs⟩ := kindB_st hkd
          obtain ⟨fd, e1, e2, e3⟩ := st_field hfs hf
          have hagg : av.agg = true := by cases av <;> simp_all [AV.nth, AV.agg]
          have hsh : av.sh ≠ .bad := by cases av <;> simp_all [AV.agg, AV.sh]
          obtain ⟨hce, hex⟩ := h1.cells hsh (by rintro t xs rfl; simp [AV.agg] at hagg)
          obtain ⟨cs, hu⟩ := hex hagg
          rw [hu] at hce
          simp only [Value.cells] at hce
          obtain ⟨k', hk'⟩ := nth_sh hv'
          rw [hn] at hk'
          simp only [Option.some.injEq, Prod.mk.injEq] at hk'
          obtain ⟨rfl, rfl⟩ := hk'
          have hc' := ce_nth hv' hn hce
          have hle := sh_nth_le hn
          have hlen := hce.len
          obtain ⟨u, hr, hval⟩ := run_part_ce (w := w) hD hb.2 (off := k) (by simp at hlen; omega) hc'
          refine ⟨u, w, ρ, .inl ?_, h, hval⟩
          simp [execOp, hop, hu, Instr.field, run_underlying hdu, e1, e2, e3, asAgg, hr]
        · exact ho.elim
      · exact ho.elim
    · exact ho.elim
  · exact ho.elim

theorem give_el (hD : DOk P C) (h : Rep W0 F0 ρ s a w) {o : Oper} {T : Nat} {x y : Operand} (hop : o.op = .index T x y) {v : AV}
    (ho : (rdX x fun a => rdX y fun j => match j with | .int _ i => elPg C T a i | _ => .fail).Out s v s') : Gives P W0 F0 o a w v s' := by
  obtain ⟨av, h1, ho1⟩ := out_rdX h ho
  clear ho
  obtain ⟨jv, h2, ho⟩ := out_rdX h ho1
  clear ho1
  split at ho
  · rename_i ki i
    have hj := h2.int_eq
    unfold elPg at ho
    split at ho
    · rename_i b
      split at ho
      · rename_i hk
        obtain ⟨b0, b1, rfl, rfl⟩ := ho
        obtain ⟨d, hdu, hkd⟩ := und hD hk (by simp)
        rw [kindB_str hkd] at hdu
        have hlt : i.toNat < b.size := by omega
        refine ⟨.int .u8 (bt b i), w, ρ, .inl ?_, h, Val.mkInt _ _ _⟩
        have : bt b i = ((b[i.toNat]'hlt).toNat : Int) := by
          simp only [bt, List.getD]
          have : b.data.toList[i.toNat]? = some b[i.toNat] := by
            rw [List.getElem?_eq_getElem (by simpa using hlt)]
            rfl
          rw [this]; rfl
        rw [this]
        simp [execOp, hop, h1.str_eq, hj, Instr.index, asIntOf, run_underlying hdu, b0, hlt]
      · exact ho.elim
    · rename_i t n xs
      split at ho
      · rename_i m e hk
        obtain ⟨hb, b0, b1, rfl, rfl⟩ := out_bif ho
        simp only [Bool.and_eq_true] at hb
        have hmn := Nat.eq_of_beq_eq_true hb.1
        subst hmn
        obtain ⟨d, hdu, hkd⟩ := und hD hk (by simp)
        rw [kindB_arr hkd] at hdu
        obtain ⟨hce, hex⟩ := h1.cells (by simp [AV.sh]) (by rintro t xs h; cases h)
        obtain ⟨cs, hu⟩ := hex rfl
        rw [hu] at hce
        simp only [Value.cells] at hce
        have hi : i.toNat < m := by omega
        have hel := ce_toAV (E := ⟨w, s'.o, ρ⟩) (hce.2.2 _ hi)
        have hle := mul_succ_le (k := t.size) hi
        have hlen : cs.toList.length = m * t.size := hce.2.1
        obtain ⟨_, ⟨tke⟩, hsz, _⟩ := load_known hD hb.2
        rw [toAV_size] at hsz
        obtain ⟨u, hr, hval⟩ := run_part_ce (w := w) hD hb.2 (cs := cs) (off := i.toNat * t.size) (E := ⟨w, s'.o, ρ⟩) (by rw [toAV_size]; simp at hlen; omega) (by rw [toAV_size]; exact hel)
        refine ⟨u, w, ρ, .inl ?_, h, hval⟩
        have hs2 : tke.i.size = t.size := by rw [tke.size, hsz]
        simp [execOp, hop, hu, hj, Instr.index, asIntOf, run_underlying hdu, b0, b1, run_sizeOf tke.hi, hs2, hr]
      · exact ho.elim
    · exact ho.elim
  · exact ho.elim
end
end Go.Ev

/- Conversions; new rows: make, append, a literal; copy and clear. -/
set_option linter.unusedVariables false
set_option linter.unusedSimpArgs false
namespace Go.Ev
open Go
section
variable {P : Program} {C : Cx} {W0 : World} {F0 : Base} {ρ : Nat → Option Loc} {s s' : St} {a : Act} {w : World}

theorem Rep.drew (h : Rep W0 F0 ρ s a w) : Rep W0 F0 ρ s a w.drew := h.world rfl rfl rfl rfl

theorem Rep.newFull (h : Rep W0 F0 ρ s a w) {o : Nat} {t : Ty} {xs : List t.den} {cells : Array Value} {T : TypeId} {fr : Nat × Nat} {n cap : Nat} (hab : s.o o = none) {cs : List Value} (hc : Pu w (Env.F ⟨w, s.o, ρ⟩) (.arr xs.length t) xs cs)
    (hl : cs.length ≤ cells.size) (hs : seg cells 0 cs.length = cs) (hf : Unfrozen fr 0 cells.size) (hn : xs.length = n) (hcap : n ≤ cap) (hfit : cap * t.size ≤ cells.size) :
    ∃ ρ', Rep W0 F0 ρ' (s.setO o (.bk t xs)) a (w.alloc (.cells cells T fr)) ∧ Val ⟨w.alloc (.cells cells T fr), (s.setO o (.bk t xs)).o, ρ'⟩ (.full o) (.slice (some ⟨w.heap.size, 0, none⟩) n cap) := by
  subst hn
  refine ⟨_, h.new (c := .bk t xs) hab hc hl hs hf, Val.leaf rfl ⟨_, rfl, _, _, _, rfl, hcap, .bk t xs, by simp [St.setO_o], .inr ⟨t, rfl, .inr ⟨⟨w.heap.size, 0⟩, cells, T, fr, by simp [upd], rfl, hp_new _ _, by simpa using hfit⟩⟩⟩⟩

theorem bytes_pu (b : ByteArray) (w : World) (F : Nat → Prop) : Pu w F (.arr (bytesOf b).length (.int .u8)) (bytesOf b) (b.data.toList.map fun x => Value.int .u8 x.toNat) := by
  refine ⟨rfl, by simp [bytesOf, Ty.size], fun i hi => ?_⟩
  simp only [bytesOf, List.length_map, Array.length_toList] at hi
  have hi' : i < b.data.toList.length := by simpa using hi
  show List.take 1 (List.drop (i * 1) _) = _
  rw [Nat.mul_one]
  apply List.ext_getElem?
  intro j
  simp only [List.getElem?_take, List.getElem?_drop, List.getElem?_map]
  cases j with
  | zero =>
    have e : b.data.toList[i]? = some b.data.toList[i] := List.getElem?_eq_getElem hi'
    simp only [Nat.add_zero, Nat.zero_lt_one, if_true, bytesOf, List.getD, List.getElem?_map, e, Option.map_some, Option.getD_some, Nat.lt_one_iff]
    rfl
  | succ j => simp

theorem freeze_alloc (w : World) (cells : Array Value) (T : TypeId) (n : Nat) : (w.alloc (.cells cells T (0, 0))).freeze ⟨w.heap.size, n, none⟩ 1 = w.alloc (.cells cells T (n, n + 1)) := by
  unfold World.freeze
  rw [if_neg (by omega)]
  show { w with heap := (w.heap.push _).modify w.heap.size _ } = { w with heap := w.heap.push _ }
  congr 1
  apply Array.ext
  · simp
  · intro i h1 h2
    simp only [Array.getElem_modify]
    by_cases e : w.heap.size = i
    · subst e; simp
    · rw [if_neg e]
      have : i < w.heap.size := by simp at h2; omega
      rw [Array.getElem_push_lt this, Array.getElem_push_lt this]

theorem run_stringToBytes {e : TypeId} (b : ByteArray) : ∃ cap, b.size ≤ cap ∧ (Conv.stringToBytes e b).run P w =
    .ok (.slice (some ⟨w.heap.size, 0, none⟩) b.size cap) (w.drew.alloc (.cells ((b.data.map fun x => Value.int .u8 x.toNat) ++ Array.replicate (cap - b.size) (.int .u8 0)) e (cap, cap + 1))) := by
  have hcap : b.size ≤ (Question.appendCap b.size 0 e).cut (w.tape w.drawn (.appendCap b.size 0 e)) := by simp [Question.cut]
  refine ⟨_, hcap, ?_⟩
  generalize hq : (Question.appendCap b.size 0 e).cut (w.tape w.drawn (.appendCap b.size 0 e)) = cap at hcap
  unfold Conv.stringToBytes
  have hsz : ((b.data.map fun x => Value.int .u8 x.toNat) ++ Array.replicate (cap - b.size) (Value.int .u8 0)).size = cap := by
    have : b.data.size = b.size := rfl
    simp; omega
  simp only [Sem.run_bind, run_choose_drew, Question.forced, Bool.false_eq_true, if_false, Result.andThen_ok, hq]
  generalize hcs : (b.data.map fun x => Value.int .u8 x.toNat) ++ Array.replicate (cap - b.size) (Value.int .u8 0) = cells at hsz
  simp only [newRow, Sem.run_bind, run_newObj_alloc, Result.andThen_ok, Sem.run_pure, markStringish]
  have hsh : (shape (w.drew).heap.size).run P (w.drew.alloc (.cells cells e (0, 0))) = .ok (some (e, cells.size)) (w.drew.alloc (.cells cells e (0, 0))) := by
    show Result.ok (World.shape? _ _) _ = _
    unfold World.shape?
    rw [hp_new]
  rw [hsh]
  simp only [Result.andThen_ok]
  show (Result.ok () ((w.drew.alloc (.cells cells e (0, 0))).freeze ⟨w.drew.heap.size, cells.size, none⟩ 1)).andThen _ = _
  rw [freeze_alloc, hsz]
  rfl
end
end Go.Ev
