/- An evaluator for the functions of a loaded program, on values without addresses; plain definitions only. -/
import Derived.WalkKit
import Derived.Orders
import Derived.KernelRfl
set_option linter.unusedVariables false
namespace Go.Ev
open Go

/-! ### kinds of plain data -/
inductive Ty where
  | int (k : IntKind) | bool | str | nl | pair (a b : Ty) | arr (n : Nat) (t : Ty) | sl (t : Ty)
  deriving DecidableEq

@[reducible] def Ty.den : Ty → Type
  | .int _ => Int
  | .bool => Bool
  | .str => ByteArray
  | .nl => Unit
  | .pair a b => a.den × b.den
  | .arr _ t => List t.den
  | .sl t => List t.den

def Ty.dflt : (t : Ty) → t.den
  | .int _ => (0 : Int)
  | .bool => false
  | .str => (⟨#[]⟩ : ByteArray)
  | .nl => ()
  | .pair a b => (a.dflt, b.dflt)
  | .arr n t => List.replicate n t.dflt
  | .sl _ => []

def Ty.size : Ty → Nat
  | .nl => 0
  | .pair a b => a.size + b.size
  | .arr n t => n * t.size
  | .int _ => 1
  | .bool => 1
  | .str => 1
  | .sl _ => 1

/-- no slice inside -/
def Ty.noSl : Ty → Bool
  | .pair a b => a.noSl && b.noSl
  | .arr _ t => t.noSl
  | .sl _ => false
  | _ => true

def Ty.beq : (t : Ty) → t.den → t.den → Bool
  | .int _, x, y => (x : Int) == y
  | .bool, x, y => (x : Bool) == y
  | .str, x, y => (x : ByteArray).toList == (y : ByteArray).toList
  | .nl, _, _ => true
  | .pair a b, x, y => Ty.beq a x.1 y.1 && Ty.beq b x.2 y.2
  | .arr n t, xs, ys => (List.range n).all fun i => Ty.beq t (xs.getD i t.dflt) (ys.getD i t.dflt)
  | .sl _, _, _ => false
/-- are two of a kind compared by '=='? -/
def Ty.eqOk : Ty → Bool
  | .pair a b => a.eqOk && b.eqOk
  | .arr _ t => t.eqOk
  | .sl _ => false
  | _ => true

def rd (t : Ty) (xs : List t.den) (i : Int) : t.den := xs.getD i.toNat t.dflt
def bt (s : ByteArray) (i : Int) : Int := ((s.data.toList.getD i.toNat 0).toNat : Int)
def win {α : Type} (xs : List α) (off len : Int) : List α := (xs.drop off.toNat).take len.toNat
def splice {α : Type} (xs : List α) (off : Int) (ys : List α) : List α := xs.take off.toNat ++ ys ++ xs.drop (off.toNat + ys.length)
def strOf (xs : List Int) : ByteArray := ⟨(xs.map fun n => UInt8.ofNat n.toNat).toArray⟩
def bytesOf (s : ByteArray) : List Int := s.data.toList.map fun b => (b.toNat : Int)
def band (k : IntKind) (x y : Int) : Int := k.wrap ((BitVec.ofInt k.bits x &&& BitVec.ofInt k.bits y).toNat)
def bor (k : IntKind) (x y : Int) : Int := k.wrap ((BitVec.ofInt k.bits x ||| BitVec.ofInt k.bits y).toNat)
def bxor (k : IntKind) (x y : Int) : Int := k.wrap ((BitVec.ofInt k.bits x ^^^ BitVec.ofInt k.bits y).toNat)
def bandn (k : IntKind) (x y : Int) : Int := k.wrap ((BitVec.ofInt k.bits x &&& ~~~ (BitVec.ofInt k.bits y)).toNat)
def shlI (k : IntKind) (x y : Int) : Int := k.wrap (x * 2 ^ (min y.toNat k.bits))
def shrI (k : IntKind) (x y : Int) : Int := x.fdiv (2 ^ (min y.toNat k.bits))
def mx (x y : Int) : Int := if y > x then y else x
def mn (x y : Int) : Int := if y < x then y else x

/-! ### values of the evaluator -/
inductive PS where
  | fld (i : Nat) | idx (i : Int)

inductive AV where
  | top
  | int (k : IntKind) (n : Int)
  | bool (b : Bool)
  | str (s : ByteArray)
  | ref (o : Nat) (p : List PS)
  | nilp
  | pref (t : Ty) (x : t.den)
  | view (o : Nat) (p : List PS) (off len : Int)
  | full (o : Nat)
  | lst (t : Ty) (xs : List t.den)
  | nils
  | arr (t : Ty) (n : Nat) (xs : List t.den)
  | bk (t : Ty) (xs : List t.den)
  | nl
  | cons (h t : AV)
  | tup (c : AV)
  | iface (T : Nat) (v : AV)
  | nili
  | fn (f : Nat)

/-- the skeleton of a content -/
inductive Sh where
  | leaf | nl | cons (a b : Sh) | arr (t : Ty) (n : Nat) | bk (t : Ty) (n : Nat) | bad
  deriving DecidableEq

def shT : Ty → Sh
  | .nl => .nl
  | .pair a b => .cons (shT a) (shT b)
  | .arr n t => .arr t n
  | .int _ => .leaf
  | .bool => .leaf
  | .str => .leaf
  | .sl _ => .leaf

def AV.sh : AV → Sh
  | .nl => .nl
  | .cons h t => .cons h.sh t.sh
  | .arr t n _ => .arr t n
  | .bk t xs => .bk t xs.length
  | .top => .bad
  | .tup _ => .bad
  | _ => .leaf

def Sh.size : Sh → Nat
  | .leaf => 1
  | .nl => 0
  | .cons a b => a.size + b.size
  | .arr t n => n * t.size
  | .bk t n => n * t.size
  | .bad => 0

def AV.agg : AV → Bool
  | .nl => true
  | .cons _ _ => true
  | .arr _ _ _ => true
  | _ => false

def toAV : (t : Ty) → t.den → AV
  | .int k, x => .int k x
  | .bool, x => .bool x
  | .str, x => .str x
  | .nl, _ => .nl
  | .pair a b, x => .cons (toAV a x.1) (toAV b x.2)
  | .arr n t, xs => .arr t n xs
  | .sl t, xs => .lst t xs

def castL {t u : Ty} (xs : List t.den) : Option (List u.den) :=
  if h : t = u then some (h ▸ xs) else none

def castV {t : Ty} (u : Ty) (x : t.den) : Option u.den :=
  if h : t = u then some (h ▸ x) else none

def ofAV : (t : Ty) → AV → Option t.den
  | .int k, .int k' n => if k' = k then some n else none
  | .bool, .bool b => some b
  | .str, .str s => some s
  | .nl, .nl => some ()
  | .pair a b, .cons h t => match ofAV a h with
    | some x => match ofAV b t with | some y => some (x, y) | none => none
    | none => none
  | .arr n t, .arr t' n' xs => if n' = n then castL xs else none
  | .sl t, .lst t' xs => castL xs
  | .sl _, .nils => some []
  | _, _ => none

def AV.nth : AV → Nat → Option AV
  | .cons h _, 0 => some h
  | .cons _ t, n + 1 => t.nth n
  | _, _ => none

def AV.setNth : AV → Nat → AV → Option AV
  | .cons _ t, 0, v => some (.cons v t)
  | .cons h t, n + 1, v => match t.setNth n v with | some t' => some (.cons h t') | none => none
  | _, _, _ => none

/-- where a field of a skeleton begins, and its skeleton -/
def Sh.nth : Sh → Nat → Option (Nat × Sh)
  | .cons h _, 0 => some (0, h)
  | .cons h t, n + 1 => match t.nth n with | some (k, s) => some (h.size + k, s) | none => none
  | _, _ => none

/-- where the part at a path begins, and its skeleton -/
def Sh.off : List PS → Sh → Option (Nat × Sh)
  | [], s => some (0, s)
  | .fld i :: p, s => match s.nth i with
    | some (k, d) => match Sh.off p d with | some (j, e) => some (k + j, e) | none => none
    | none => none
  | .idx i :: p, .arr t n => if 0 ≤ i ∧ i < n then (match Sh.off p (shT t) with | some (j, e) => some (i.toNat * t.size + j, e) | none => none) else none
  | .idx i :: p, .bk t n => if 0 ≤ i ∧ i < n then (match Sh.off p (shT t) with | some (j, e) => some (i.toNat * t.size + j, e) | none => none) else none
  | _, _ => none

/-- the part of a content at a path -/
def AV.at : List PS → AV → Option AV
  | [], c => some c
  | .fld i :: p, c => match c.nth i with | some d => AV.at p d | none => none
  | .idx i :: p, .arr t _ xs => AV.at p (toAV t (rd t xs i))
  | .idx i :: p, .bk t xs => AV.at p (toAV t (rd t xs i))
  | _, _ => none

def AV.put : List PS → AV → AV → Option AV
  | [], c, v => if v.sh = c.sh then some v else none
  | .fld i :: p, c, v => match c.nth i with
    | some d => match AV.put p d v with | some d' => c.setNth i d' | none => none
    | none => none
  | .idx i :: p, .arr t n xs, v => match AV.put p (toAV t (rd t xs i)) v with
    | some d => match ofAV t d with | some x => some (.arr t n (xs.set i.toNat x)) | none => none
    | none => none
  | .idx i :: p, .bk t xs, v => match AV.put p (toAV t (rd t xs i)) v with
    | some d => match ofAV t d with | some x => some (.bk t (xs.set i.toNat x)) | none => none
    | none => none
  | _, _, _ => none

/-! ### states -/
structure St where
  n : Nat
  tm : List (Nat × AV)
  ob : List (Nat × AV)

def look (l : List (Nat × AV)) (i : Nat) : AV := match l with
  | [] => .top
  | (j, v) :: r => bif Nat.beq j i then v else look r i
def look? (l : List (Nat × AV)) (i : Nat) : Option AV := match l with
  | [] => none
  | (j, v) :: r => bif Nat.beq j i then some v else look? r i
def St.t (s : St) (i : Nat) : AV := look s.tm i
def St.o (s : St) (i : Nat) : Option AV := look? s.ob i
def St.setT (s : St) (i : Nat) (v : AV) : St := { s with tm := (i, v) :: s.tm }
def St.setO (s : St) (i : Nat) (v : AV) : St := { s with ob := (i, v) :: s.ob }

/-! ### programs of one operation: reads, writes, tests -/
inductive Pg (α : Type) : Type 1 where
  | ret (v : α)
  | fail
  | rdT (t : Nat) (k : AV → Pg α)
  | rdO (o : Nat) (k : AV → Pg α)
  | wrO (o : Nat) (c : AV) (k : Pg α)
  | new (o : Nat) (c : AV) (k : Pg α)
  | br (t : Nat) (p q : Pg α)
  | test (c : Prop) (d : Decidable c) (k : Pg α)
  | bind (T : Type) (m : Option T) (k : T → Pg α)
  | opt (T : Type) (m : Option T) (p : Pg α) (k : T → Pg α)

def AV.dead : AV → Bool
  | .top => true
  | .tup _ => true
  | _ => false
/-- 'br t': a test of the slot t, which holds a bool -/
def Pg.runK {α R : Type} (s : St) : Pg α → (α → St → Option R) → Option R
  | .ret v, k => k v s
  | .fail, _ => none
  | .rdT t f, k => (f (s.t t)).runK s k
  | .rdO o f, k => match s.o o with | some c => bif c.dead then none else (f c).runK s k | none => none
  | .wrO o c p, k => match s.o o with | some _ => p.runK (s.setO o c) k | none => none
  | .new o c p, k => match s.o o with | none => p.runK (s.setO o c) k | some _ => none
  | .br t p q, k => match s.t t with
    | .bool b => if b then p.runK (s.setT t (.bool true)) k else q.runK (s.setT t (.bool false)) k
    | _ => none
  | .test c d p, k => @ite _ c d (p.runK s k) none
  | .bind _ m f, k => m.bind fun r => (f r).runK s k
  | .opt _ m p f, k => match m with | none => p.runK s k | some r => (f r).runK s k

/-! ### types -/
inductive TK where
  | int (k : IntKind) | bool | str | ptr (e : Nat) | sl (e : Nat) | arr (n : Nat) (e : Nat) | st (fs : List (Nat × Nat)) | iface | other
structure TI where
  k : TK
  size : Nat
  bytes : Nat
  zero : AV
  ty : Option Ty
  eq : Bool

/-! ### what a function takes and gives -/
inductive SP where
  | pure (t : Ty) | own (t : Ty) | rptr (t : Ty) | ptr (s : SP) | nptr (s : SP) | nl | cons (a b : SP)

@[reducible] def SP.den : SP → Type
  | .pure t => t.den
  | .own t => List t.den
  | .rptr t => t.den
  | .ptr s => s.den
  | .nptr s => Option s.den
  | .nl => Unit
  | .cons a b => a.den × b.den
/-- what is behind the pointers after the call -/
@[reducible] def SP.odn : SP → Type
  | .pure _ => Unit
  | .own _ => Unit
  | .rptr _ => Unit
  | .ptr s => s.den
  | .nptr s => Option s.den
  | .nl => Unit
  | .cons a b => a.odn × b.odn

structure Sig : Type 1 where
  ps : SP
  rs : SP
  T : Type
  m : ps.den → Option T
  res : ps.den → T → rs.den
  out : ps.den → T → ps.odn

structure Cx where
  D : Nat → TI
  G : Nat → Option Sig
  /-- the rounds that a loop may take -/
  N : Nat

def ofP {α β : Type} (m : Option β) (k : β → Pg α) : Pg α := match m with | some x => k x | none => .fail

/-- a plain value out of a value: 'k' gets it, and which objects were looked into -/
def exP {α : Type} : (t : Ty) → AV → (t.den → List Nat → Pg α) → Pg α
  | .pair a b, v, k => match v with
    | .cons h r => exP a h fun x l => exP b r fun y m => k (x, y) (l ++ m)
    | _ => .fail
  | .sl t, v, k => match v with
    | .view o p off len => .rdO o fun c => match AV.at p c with
      | some (.arr t' _ xs) => ofP (castL (u := t) xs) fun ys => k (win ys off len) [o]
      | some (.bk t' xs) => ofP (castL (u := t) xs) fun ys => k (win ys off len) [o]
      | _ => .fail
    | .full o => .rdO o fun c => match c with
      | .bk t' xs => ofP (castL (u := t) xs) fun ys => k ys [o]
      | _ => .fail
    | v => ofP (ofAV (.sl t) v) fun x => k x []
  | .int i, v, k => ofP (ofAV (.int i) v) fun x => k x []
  | .bool, v, k => ofP (ofAV .bool v) fun x => k x []
  | .str, v, k => ofP (ofAV .str v) fun x => k x []
  | .nl, v, k => ofP (ofAV .nl v) fun x => k x []
  | .arr n t, v, k => ofP (ofAV (.arr n t) v) fun x => k x []

/-- a value by its specification: what it is, the objects that it owns, those that were looked into -/
def exS {α : Type} : (s : SP) → AV → (s.den → List Nat → List Nat → Pg α) → Pg α
  | .pure t, v, k => exP t v fun x l => k x [] l
  | .own t, v, k => match v with
    | .full o => .rdO o fun c => match c with
      | .bk t' xs => ofP (castL (u := t) xs) fun ys => k ys [o] []
      | _ => .fail
    | .view o [] off len => .rdO o fun c => match c with
      | .bk t' xs => ofP (castL (u := t) xs) fun ys => k (win ys off len) [o] []
      | _ => .fail
    | .nils => k [] [] []
    | _ => .fail
  | .rptr t, v, k => match v with
    | .ref o p => .rdO o fun c => match AV.at p c with
      | some d => ofP (ofAV t d) fun x => k x [] [o]
      | none => .fail
    | .pref t' x => ofP (castV t x) fun y => k y [] []
    | _ => .fail
  | .ptr s, v, k => match v with
    | .ref o [] => .rdO o fun c => exS s c fun x l m => k x (o :: l) m
    | _ => .fail
  | .nptr s, v, k => match v with
    | .ref o [] => .rdO o fun c => exS s c fun x l m => k (some x) (o :: l) m
    | .nilp => k none [] []
    | _ => .fail
  | .nl, v, k => match v with | .nl => k () [] [] | _ => .fail
  | .cons a b, v, k => match v with
    | .cons h r => exS a h fun x l m => exS b r fun y l' m' => k (x, y) (l ++ l') (m ++ m')
    | _ => .fail

/-- what lies behind the pointers of the arguments v at the end -/
def exO {α : Type} : (s : SP) → AV → (s.odn → List Nat → List Nat → Pg α) → Pg α
  | .pure _, _, k => k () [] []
  | .own _, _, _ => .fail
  | .rptr _, _, k => k () [] []
  | .ptr s, v, k => match v with
    | .ref o [] => .rdO o fun c => exS s c fun x l m => k x (o :: l) m
    | _ => .fail
  | .nptr s, v, k => match v with
    | .ref o [] => .rdO o fun c => exS s c fun x l m => k (some x) (o :: l) m
    | .nilp => k none [] []
    | _ => .fail
  | .nl, _, k => k () [] []
  | .cons a b, v, k => match v with
    | .cons h r => exO a h fun x l m => exO b r fun y l' m' => k (x, y) (l ++ l') (m ++ m')
    | _ => .fail

/-- a value of a specification, its objects new: their names from nx on -/
def inS {α : Type} : (s : SP) → s.den → Nat → (AV → List (Nat × AV) → Nat → Pg α) → Pg α
  | .pure t, x, nx, k => k (toAV t x) [] nx
  | .own t, xs, nx, k => k (.full nx) [(nx, .bk t xs)] (nx + 1)
  | .rptr t, x, nx, k => k (.pref t x) [] nx
  | .ptr s, x, nx, k => inS s x (nx + 1) fun c l n => k (.ref nx []) ((nx, c) :: l) n
  | .nptr s, x, nx, k => .opt s.den x (k .nilp [] nx) fun y => inS s y (nx + 1) fun c l n => k (.ref nx []) ((nx, c) :: l) n
  | .nl, _, nx, k => k .nl [] nx
  | .cons a b, x, nx, k => inS a x.1 nx fun v l n => inS b x.2 n fun u m n' => k (.cons v u) (l ++ m) n'

/-- the pointers' new contents, laid into the objects of the arguments v; the objects within are new -/
def reO {α : Type} : (s : SP) → s.odn → AV → Nat → (List (Nat × AV) → List (Nat × AV) → Nat → Pg α) → Pg α
  | .pure _, _, _, nx, k => k [] [] nx
  | .own _, _, _, nx, k => k [] [] nx
  | .rptr _, _, _, nx, k => k [] [] nx
  | .ptr s, x, v, nx, k => match v with
    | .ref o [] => inS s x nx fun c l n => k [(o, c)] l n
    | _ => .fail
  | .nptr s, x, v, nx, k => match v with
    | .ref o [] => .opt s.den x .fail fun y => inS s y nx fun c l n => k [(o, c)] l n
    | .nilp => k [] [] nx
    | _ => .fail
  | .nl, _, _, nx, k => k [] [] nx
  | .cons a b, x, v, nx, k => match v with
    | .cons h r => reO a x.1 h nx fun w l n => reO b x.2 r n fun w' l' n' => k (w ++ w') (l ++ l') n'
    | _ => .fail

def memN (i : Nat) : List Nat → Bool
  | [] => false
  | j :: r => Nat.beq j i || memN i r
def nodupN : List Nat → Bool
  | [] => true
  | i :: r => !memN i r && nodupN r
def apartN : List Nat → List Nat → Bool
  | [], _ => true
  | i :: r, l => !memN i l && apartN r l

def killAll {α : Type} : List Nat → Pg α → Pg α
  | [], p => p
  | o :: r, p => .wrO o .top (killAll r p)
def newAll {α : Type} : List (Nat × AV) → Pg α → Pg α
  | [], p => p
  | (o, c) :: r, p => .new o c (newAll r p)
/-- each object's skeleton is as it was -/
def wrAll {α : Type} : List (Nat × AV) → Pg α → Pg α
  | [], p => p
  | (o, c) :: r, p => .rdO o fun d => if c.sh = d.sh then .wrO o c (wrAll r p) else .fail
def namesOf (l : List (Nat × AV)) : List Nat := l.map (·.1)

def listAV : List AV → AV
  | [] => .nl
  | v :: r => .cons v (listAV r)
/-- one result is itself, several are a tuple -/
def resAV : AV → AV
  | .cons v .nl => v
  | c => .tup c

/-- the objects that are owned by the arguments but do not lie right behind one of their pointers -/
def without : List Nat → List Nat → List Nat
  | [], _ => []
  | i :: r, l => bif memN i l then without r l else i :: without r l

def SP.noSl : SP → Bool
  | .pure t => t.noSl
  | .own t => t.noSl
  | .rptr _ => false
  | .ptr s => s.noSl
  | .nptr s => s.noSl
  | .nl => true
  | .cons a b => a.noSl && b.noSl
/-- one parameter: behind a pointer no slice is shared -/
def SP.par1 : SP → Bool
  | .pure _ => true
  | .rptr _ => true
  | .ptr s => s.noSl
  | .nptr s => s.noSl
  | _ => false
def SP.parOk : SP → Bool
  | .nl => true
  | .cons a b => a.par1 && b.parOk
  | _ => false
/-- a list of values, one after the other -/
def SP.isList : SP → Bool
  | .nl => true
  | .cons _ b => b.isList
  | _ => false
def Sig.ok (g : Sig) : Bool := g.rs.noSl && g.ps.parOk && g.rs.isList

def callPg (g : Sig) (vs : List AV) (d : Nat) : Pg AV :=
  bif g.ok then
  exS g.ps (listAV vs) fun x own ro =>
    bif nodupN own && apartN own ro then
      .bind g.T (g.m x) fun r =>
        reO g.ps (g.out x r) (listAV vs) (200000 + 32 * d) fun ws news n =>
          inS g.rs (g.res x r) n fun v news' _ =>
            bif nodupN (namesOf ws ++ (without own (namesOf ws) ++ (namesOf news ++ namesOf news'))) then
              wrAll ws (killAll (without own (namesOf ws)) (newAll (news ++ news') (.ret (resAV v))))
            else .fail
    else .fail
  else .fail

/-! ### operations -/
def ofConst : Value → AV
  | .int k n => .int k n
  | .bool b => .bool b
  | .string s => .str s
  | .slice none 0 0 => .nils
  | .pointer none => .nilp
  | .nilIface => .nili
  | _ => .top
def rdX {α : Type} (x : Operand) (k : AV → Pg α) : Pg α := match x with
  | .tmp t => .rdT t k
  | .const v => k (ofConst v)
  | .func f => k (.fn f)
  | .global _ => .fail
def rdXs {α : Type} : List Operand → (List AV → Pg α) → Pg α
  | [], k => k []
  | x :: r, k => rdX x fun v => rdXs r fun vs => k (v :: vs)
def rdXo {α : Type} : Option Operand → (Option AV → Pg α) → Pg α
  | none, k => k none
  | some x, k => rdX x fun v => k (some v)

def tst (c : Prop) [d : Decidable c] (p : Pg AV) : Pg AV := .test c d p

def binI (op : BinOp) (k : IntKind) (x y : Int) : Pg AV := match op with
  | .add => .ret (.int k (k.wrap (x + y)))
  | .sub => .ret (.int k (k.wrap (x - y)))
  | .mul => .ret (.int k (k.wrap (x * y)))
  | .quo => tst (y ≠ 0) (.ret (.int k (k.wrap (x.tdiv y))))
  | .rem => tst (y ≠ 0) (.ret (.int k (x.tmod y)))
  | .and => .ret (.int k (band k x y))
  | .or => .ret (.int k (bor k x y))
  | .xor => .ret (.int k (bxor k x y))
  | .andNot => .ret (.int k (bandn k x y))
  | .eql => .ret (.bool (x == y))
  | .neq => .ret (.bool (x != y))
  | .lss => .ret (.bool (decide (x < y)))
  | .leq => .ret (.bool (decide (x ≤ y)))
  | .gtr => .ret (.bool (decide (x > y)))
  | .geq => .ret (.bool (decide (x ≥ y)))
  | _ => .fail
def strEq (x y : ByteArray) : Bool := x.toList == y.toList
def strLt (x y : ByteArray) : Bool := Op.bytesLess x.toList y.toList
def binS (op : BinOp) (x y : ByteArray) : Pg AV := match op with
  | .add => tst (x.size + y.size < 9223372036854775808) (.ret (.str (x ++ y)))
  | .eql => .ret (.bool (strEq x y))
  | .neq => .ret (.bool (!strEq x y))
  | .lss => .ret (.bool (strLt x y))
  | .leq => .ret (.bool (strLt x y || strEq x y))
  | .gtr => .ret (.bool (!(strLt x y || strEq x y)))
  | .geq => .ret (.bool (!strLt x y))
  | _ => .fail
/-- '==' on structs and arrays of a type -/
def aggEq (ti : TI) (a b : AV) (k : Bool → Pg AV) : Pg AV := match ti.ty with
  | some t => bif ti.eq && a.agg && b.agg then (match ofAV t a with
      | some x => match ofAV t b with | some y => k (Ty.beq t x y) | none => .fail
      | none => .fail) else .fail
  | none => .fail
def binPg (C : Cx) (op : BinOp) (T : Nat) (a b : AV) : Pg AV := match a, b with
  | .int k x, .int k' y => (match op with
    | .shl => tst (0 ≤ y) (.ret (.int k (shlI k x y)))
    | .shr => tst (0 ≤ y) (.ret (.int k (shrI k x y)))
    | _ => if k = k' then binI op k x y else .fail)
  | .str x, .str y => binS op x y
  | .bool x, .bool y => (match (C.D T).k, op with
    | .bool, .eql => .ret (.bool (x == y))
    | .bool, .neq => .ret (.bool (!(x == y)))
    | _, _ => .fail)
  | .nilp, .nilp => (match (C.D T).k, op with
    | .ptr _, .eql => .ret (.bool true)
    | .ptr _, .neq => .ret (.bool false)
    | _, _ => .fail)
  | .ref _ _, .nilp => (match (C.D T).k, op with
    | .ptr _, .eql => .ret (.bool false)
    | .ptr _, .neq => .ret (.bool true)
    | _, _ => .fail)
  | .nilp, .ref _ _ => (match (C.D T).k, op with
    | .ptr _, .eql => .ret (.bool false)
    | .ptr _, .neq => .ret (.bool true)
    | _, _ => .fail)
  | a, b => (match op with
    | .eql => aggEq (C.D T) a b fun r => .ret (.bool r)
    | .neq => aggEq (C.D T) a b fun r => .ret (.bool (!r))
    | _ => .fail)
def unPg (op : UnOp) (a : AV) : Pg AV := match op, a with
  | .not, .bool b => .ret (.bool (!b))
  | .neg, .int k n => .ret (.int k (k.wrap (0 - n)))
  | _, _ => .fail

def lenPg : AV → Pg AV
  | .str s => .ret (.int .i64 s.size)
  | .lst _ xs => .ret (.int .i64 xs.length)
  | .nils => .ret (.int .i64 0)
  | .view _ _ _ len => .ret (.int .i64 len)
  | .full o => .rdO o fun c => match c with | .bk _ xs => .ret (.int .i64 xs.length) | _ => .fail
  | _ => .fail

def bound (x : Option AV) (d : Int) : Option Int := match x with
  | none => some d
  | some (.int _ n) => some n
  | some _ => none
/-- 'x[lo:hi]' of something with n elements -/
def cutPg (n : Int) (lo hi : Option AV) (k : Int → Int → Pg AV) : Pg AV := match bound lo 0, bound hi n with
  | some l, some h => tst (0 ≤ h) <| tst (h ≤ n) <| tst (0 ≤ l) <| tst (l ≤ h) <| k l h
  | _, _ => .fail
def slicePg (C : Cx) (T : Nat) (x : AV) (lo hi : Option AV) : Pg AV := match x with
  | .ref o p => (match (C.D T).k with
    | .arr m e => .rdO o fun c => (match AV.at p c with
      | some (.arr t n _) => if t.size = (C.D e).size ∧ m = n then cutPg n lo hi fun l h => .ret (.view o p l (h - l)) else .fail
      | _ => .fail)
    | _ => .fail)
  | .pref (.arr n t) xs => (match (C.D T).k with
    | .arr m e => if t.size = (C.D e).size ∧ m = n then cutPg n lo hi fun l h => .ret (.lst t (win xs l (h - l))) else .fail
    | _ => .fail)
  | .str s => (match (C.D T).k with
    | .str => cutPg s.size lo hi fun l h => .ret (.str (s.extract l.toNat h.toNat))
    | _ => .fail)
  | .lst t xs => (match (C.D T).k with
    | .sl e => if t.size = (C.D e).size then cutPg xs.length lo hi fun l h => .ret (.lst t (win xs l (h - l))) else .fail
    | _ => .fail)
  | .view o p off len => (match (C.D T).k with
    | .sl e => .rdO o fun c => (match AV.at p c with
      | some (.arr t _ _) => if t.size = (C.D e).size then cutPg len lo hi fun l h => .ret (.view o p (off + l) (h - l)) else .fail
      | some (.bk t _) => if t.size = (C.D e).size then cutPg len lo hi fun l h => .ret (.view o p (off + l) (h - l)) else .fail
      | _ => .fail)
    | _ => .fail)
  | .full o => (match (C.D T).k with
    | .sl e => .rdO o fun c => (match c with
      | .bk t xs => if t.size = (C.D e).size then cutPg xs.length lo hi fun l h => .ret (.view o [] l (h - l)) else .fail
      | _ => .fail)
    | _ => .fail)
  | .nils => (match (C.D T).k with
    | .sl _ => cutPg 0 lo hi fun _ _ => .ret .nils
    | _ => .fail)
  | _ => .fail

def idxPg (C : Cx) (T : Nat) (a : AV) (i : Int) : Pg AV := match a with
  | .ref o p => (match (C.D T).k with
    | .arr m e => .rdO o fun c => (match AV.at p c with
      | some (.arr t n _) => if t.size = (C.D e).size ∧ m = n then tst (0 ≤ i) <| tst (i < n) <| .ret (.ref o (p ++ [.idx i])) else .fail
      | _ => .fail)
    | _ => .fail)
  | .pref (.arr n t) xs => (match (C.D T).k with
    | .arr m e => if t.size = (C.D e).size ∧ m = n then tst (0 ≤ i) <| tst (i < n) <| .ret (.pref t (rd t xs i)) else .fail
    | _ => .fail)
  | .view o p off len => (match (C.D T).k with
    | .sl e => .rdO o fun c => (match AV.at p c with
      | some (.arr t _ _) => if t.size = (C.D e).size then tst (0 ≤ i) <| tst (i < len) <| .ret (.ref o (p ++ [.idx (off + i)])) else .fail
      | some (.bk t _) => if t.size = (C.D e).size then tst (0 ≤ i) <| tst (i < len) <| .ret (.ref o (p ++ [.idx (off + i)])) else .fail
      | _ => .fail)
    | _ => .fail)
  | .full o => (match (C.D T).k with
    | .sl e => .rdO o fun c => (match c with
      | .bk t xs => if t.size = (C.D e).size then tst (0 ≤ i) <| tst (i < xs.length) <| .ret (.ref o [.idx i]) else .fail
      | _ => .fail)
    | _ => .fail)
  | .lst t xs => (match (C.D T).k with
    | .sl e => if t.size = (C.D e).size then tst (0 ≤ i) <| tst (i < xs.length) <| .ret (.pref t (rd t xs i)) else .fail
    | _ => .fail)
  | _ => .fail
def bkB : AV → Bool
  | .bk _ _ => true
  | _ => false
def TK.agg : TK → Bool
  | .st _ => true
  | .arr _ _ => true
  | _ => false
def TK.ok : TK → Bool
  | .other => false
  | _ => true
def loadOk (ti : TI) (v : AV) : Bool := Nat.beq v.sh.size ti.size && (if v.agg then ti.k.agg else (!ti.k.agg && decide (v.sh = .leaf)))
/-- an element of a string or of an array's value -/
def elPg (C : Cx) (T : Nat) (a : AV) (i : Int) : Pg AV := match a with
  | .str s => (match (C.D T).k with | .str => tst (0 ≤ i) <| tst (i < s.size) <| .ret (.int .u8 (bt s i)) | _ => .fail)
  | .arr t n xs => (match (C.D T).k with
    | .arr m e => bif Nat.beq m n && loadOk (C.D e) (toAV t (rd t xs i)) then tst (0 ≤ i) <| tst (i < n) <| .ret (toAV t (rd t xs i)) else .fail
    | _ => .fail)
  | _ => .fail
def fieldPg (C : Cx) (T : Nat) (a : AV) (f : Nat) : Pg AV := match (C.D T).k with
  | .st fs => (match fs[f]? with
    | some (ft, off) => (match a.nth f with
      | some v => (match a.sh.nth f with
        | some (k, _) => bif Nat.beq k off && loadOk (C.D ft) v then .ret v else .fail
        | none => .fail)
      | none => .fail)
    | none => .fail)
  | _ => .fail
def prefFld : (t : Ty) → t.den → Nat → Nat → Nat → Pg AV
  | .pair a b, x, 0, k, off => if k = off then .ret (.pref a x.1) else .fail
  | .pair a b, x, f + 1, k, off => prefFld b x.2 f (k + a.size) off
  | _, _, _, _, _ => .fail
def fldPg (C : Cx) (T : Nat) (a : AV) (f : Nat) : Pg AV := match (C.D T).k with
  | .st fs => (match fs[f]? with
    | some (ft, off) => bif (C.D ft).k.ok && !Nat.beq (C.D ft).size 0 then (match a with
      | .ref o p => .rdO o fun c => (match AV.at p c with
        | some d => (match d.sh.nth f with
          | some (k, _) => if k = off then .ret (.ref o (p ++ [.fld f])) else .fail
          | none => .fail)
        | none => .fail)
      | .pref t x => prefFld t x f 0 off
      | _ => .fail) else .fail
    | none => .fail)
  | _ => .fail
def loadPg (C : Cx) (T : Nat) (a : AV) : Pg AV := match a with
  | .ref o p => .rdO o fun c => (match AV.at p c with
    | some v => bif loadOk (C.D T) v then .ret v else .fail
    | none => .fail)
  | .pref t x => bif loadOk (C.D T) (toAV t x) then .ret (toAV t x) else .fail
  | _ => .fail
def storePg (C : Cx) (T : Nat) (a v : AV) : Pg AV := match a with
  | .ref o p => .rdO o fun c => (match AV.put p c v with
    | some c' => bif Nat.beq v.sh.size (C.D T).size && !v.dead && !bkB v && (C.D T).k.ok then .wrO o c' (.ret .top) else .fail
    | none => .fail)
  | _ => .fail

def convPg (C : Cx) (src dst : Nat) (a : AV) (d : Nat) : Pg AV := bif (C.D src).k.ok then (match a with
  | .int _ n => (match (C.D dst).k with
    | .int k => .ret (.int k (k.wrap n))
    | .str => .ret (.str (Utf8.encode n))
    | _ => .fail)
  | .str s => (match (C.D dst).k with
    | .str => .ret (.str s)
    | .sl e => (match (C.D e).k with
      | .int .u8 => tst (s.size < 9223372036854775808) <| .new d (.bk (.int .u8) (bytesOf s)) (.ret (.full d))
      | _ => .fail)
    | _ => .fail)
  | a => (match (C.D src).k with
    | .sl e => (match (C.D dst).k with
      | .str => (match (C.D e).k with
        | .int .u8 => exP (.sl (.int .u8)) a fun x _ => .ret (.str (strOf x))
        | _ => .fail)
      | _ => .fail)
    | _ => .fail)) else .fail

/-- the largest number of elements: in all at most 2^47 bytes -/
def fits (n bytes : Nat) : Prop := n * bytes ≤ 140737488355328
instance (n b : Nat) : Decidable (fits n b) := by unfold fits; infer_instance

/-- what is appended: its elements -/
def appPg (C : Cx) (T : Nat) (a b : AV) (d : Nat) : Pg AV := match (C.D T).k with
  | .sl e => (match (C.D e).ty with
    | some t => bif !t.noSl || Nat.beq (C.D e).bytes 0 then .fail else exP (.sl t) b fun ys ro => (match a with
      | .nils => tst (fits ys.length (C.D e).bytes) <| .new d (.bk t ys) (.ret (.full d))
      | .full o => .rdO o fun c => (match c with
        | .bk t' xs => ofP (castL (u := t) xs) fun xs => bif memN o ro then .fail else tst (fits (xs.length + ys.length) (C.D e).bytes) <| .wrO o .top (.new d (.bk t (xs ++ ys)) (.ret (.full d)))
        | _ => .fail)
      | _ => .fail)
    | none => .fail)
  | _ => .fail
def copyPg (C : Cx) (T T2 : Nat) (a b : AV) : Pg AV := match (C.D T).k with
  | .sl e => (match (C.D T2).k with
    | .sl _ => (match (C.D e).ty with
      | some t => bif !t.noSl then .fail else (match a with
        | .view o p off len => exP (.sl t) b fun ys _ => .rdO o fun c => (match AV.at p c with
          | some (.arr t' n xs) => ofP (castL (u := t') (ys.take len.toNat)) fun zs =>
              ofP (AV.put p c (.arr t' n (splice xs off zs))) fun c' => .wrO o c' (.ret (.int .i64 (mn ys.length len)))
          | _ => .fail)
        | _ => .fail)
      | none => .fail)
    | _ => .fail)
  | _ => .fail
def clearPg (C : Cx) (T : Nat) (a : AV) : Pg AV := match (C.D T).k with
  | .sl e => (match (C.D e).ty with
    | some t => bif !t.noSl then .fail else (match a with
      | .view o p off len => .rdO o fun c => (match AV.at p c with
        | some (.arr t' n xs) => ofP (castL (u := t') (List.replicate len.toNat t.dflt)) fun zs =>
            ofP (AV.put p c (.arr t' n (splice xs off zs))) fun c' => .wrO o c' (.ret .top)
        | _ => .fail)
      | _ => .fail)
    | none => .fail)
  | _ => .fail
def makePg (C : Cx) (T : Nat) (l c : AV) (d : Nat) : Pg AV := match l, c with
  | .int .i64 n, .int .i64 m => (match (C.D T).k with
    | .sl e => (match (C.D e).ty with
      | some t => if (C.D e).bytes = 0 then .fail else tst (0 ≤ n) <| tst (n ≤ m) <| tst (fits m.toNat (C.D e).bytes) <| .new d (.bk t (List.replicate n.toNat t.dflt)) (.ret (.full d))
      | none => .fail)
    | _ => .fail)
  | _, _ => .fail

def setParts (C : Cx) (fs : List (Nat × Nat)) : List (Nat × AV) → AV → Option AV
  | [], c => some c
  | (i, v) :: r, c => match fs[i]? with
    | some (ft, off) => (match c.sh.nth i with
      | some (k, e) => bif Nat.beq k off && Nat.beq e.size (C.D ft).size && !v.dead && !bkB v then (match AV.put [.fld i] c v with | some c' => setParts C fs r c' | none => none) else none
      | none => none)
    | none => none
def allOk (C : Cx) : List (Nat × Nat) → Bool
  | [] => true
  | (ft, _) :: r => (C.D ft).k.ok && allOk C r
def buildPg (C : Cx) (T : Nat) (is : List Nat) (vs : List AV) : Pg AV := match (C.D T).k with
  | .st fs => bif allOk C fs && !(C.D T).zero.dead && (C.D T).zero.agg then ofP (setParts C fs (is.zip vs) (C.D T).zero) .ret else .fail
  | .arr _ e => (match vs with | [] => bif (C.D e).k.ok && !(C.D T).zero.dead && (C.D T).zero.agg then .ret (C.D T).zero else .fail | _ => .fail)
  | _ => .fail
def litOf (t : Ty) : List AV → Option (List t.den)
  | [] => some []
  | v :: r => match ofAV t v with | some x => (match litOf t r with | some xs => some (x :: xs) | none => none) | none => none
/-- are the numbers 0, 1, 2, ..? -/
def isRange : List Nat → Nat → Bool
  | [], _ => true
  | i :: r, j => Nat.beq i j && isRange r (j + 1)
def bslPg (C : Cx) (T len : Nat) (is : List Nat) (vs : List AV) (d : Nat) : Pg AV := match (C.D T).k with
  | .sl e => (match (C.D e).ty with
    | some t => bif isRange is 0 && Nat.beq is.length len && Nat.blt (len * (C.D e).size) 16777217 then ofP (litOf t vs) fun xs => .new d (.bk t xs) (.ret (.full d)) else .fail
    | none => .fail)
  | _ => .fail

def mnmxPg (f : Int → Int → Int) : List AV → Pg AV
  | [.int k x, .int _ y] => .ret (.int k (f x y))
  | [.int k x, .int _ y, .int _ z] => .ret (.int k (f (f x y) z))
  | _ => .fail

def lenOk (k : TK) (v : AV) : Bool := match v with
  | .str _ => (match k with | .str => true | _ => false)
  | _ => (match k with | .sl _ => true | _ => false)
def builtPg (C : Cx) (b : Builtin) (Ts : List Nat) (vs : List AV) (d : Nat) : Pg AV := match b, Ts, vs with
  | .len, [T], [v] => bif lenOk (C.D T).k v then lenPg v else .fail
  | .append, [T, T2], [a, v] => bif Nat.beq T T2 then appPg C T a v d else .fail
  | .copy, [T, T2], [a, v] => copyPg C T T2 a v
  | .clear, [T], [a] => clearPg C T a
  | .max, _, vs => mnmxPg mx vs
  | .min, _, vs => mnmxPg mn vs
  | _, _, _ => .fail

def opPg (C : Cx) (o : Oper) : Pg AV := match o.op with
  | .move x => rdX x .ret
  | .assign x => rdX x .ret
  | .pick c a b => match c with
    | .tmp t => .br t (rdX a .ret) (rdX b .ret)
    | _ => .fail
  | .alloc T => match o.dst with | some d => bif (C.D T).zero.dead then .fail else .new d (C.D T).zero (.ret (.ref d [])) | none => .fail
  | .box _ x => match o.dst with | some d => rdX x fun v => bif v.dead || bkB v then .fail else .new d v (.ret (.ref d [])) | none => .fail
  | .build T parts => rdXs (parts.toList.map (·.2)) fun vs => buildPg C T (parts.toList.map (·.1)) vs
  | .buildSlice T len parts => match o.dst with
    | some d => rdXs (parts.toList.map (·.2)) fun vs => bslPg C T len (parts.toList.map (·.1)) vs d
    | none => .fail
  | .load T x => rdX x fun a => loadPg C T a
  | .store T x y => match o.dst with | none => rdX x fun a => rdX y fun v => storePg C T a v | some _ => .fail
  | .nilCheck x => rdX x fun v => match v with | .ref o p => .ret (.ref o p) | .pref t x => .ret (.pref t x) | _ => .fail
  | .binOp op T x y _ => rdX x fun a => rdX y fun b => binPg C op T a b
  | .unOp op _ x => rdX x fun a => unPg op a
  | .convert src dst x => rdX x fun a => convPg C src dst a (o.dst.getD 0)
  | .makeSlice T l c => match o.dst with | some d => rdX l fun a => rdX c fun b => makePg C T a b d | none => .fail
  | .slice T x lo hi none => rdX x fun a => rdXo lo fun l => rdXo hi fun h => slicePg C T a l h
  | .fieldAddr T x f => rdX x fun a => fldPg C T a f
  | .field T x f => rdX x fun a => fieldPg C T a f
  | .indexAddr T x i => rdX x fun a => rdX i fun j => match j with | .int _ i => idxPg C T a i | _ => .fail
  | .index T x i => rdX x fun a => rdX i fun j => match j with | .int _ i => elPg C T a i | _ => .fail
  | .extract x i => rdX x fun a => match a with | .tup c => (match c.nth i with | some v => .ret v | none => .fail) | _ => .fail
  | .call c => match c.callee with
    | .builtin b => rdXs c.args.toList fun vs => match o.dst with
      | some d => builtPg C b c.argTypes.toList vs d
      | none => (match b with | .copy => builtPg C b c.argTypes.toList vs 0 | .clear => builtPg C b c.argTypes.toList vs 0 | _ => .fail)
    | .value (.func f) => match C.G f with
      | some g => rdXs c.args.toList fun vs => callPg g vs (o.dst.getD 0)
      | none => .fail
    | _ => .fail
  | _ => .fail

/-! ### regions -/
def dstOf (ops : List Oper) (j : Nat) : Option Nat := match ops[j]? with | some o => o.dst | none => none
def guardPg (ops : List Oper) (o : Oper) (p : Pg AV) : Pg AV := match o.guard with
  | none => p
  | some (j, want) => match dstOf ops j with
    | some t => .rdT t fun v => match v with
      | .tup .nl => .ret (.tup .nl)
      | _ => if want then .br t p (.ret (.tup .nl)) else .br t (.ret (.tup .nl)) p
    | none => .fail
def putDst (o : Oper) (v : AV) (s : St) : Option St := match o.dst with
  | some d => bif Nat.blt d s.n then some (s.setT d v) else none
  | none => some s

def opsK {R : Type} (C : Cx) (ops : List Oper) : List Oper → St → (St → Option R) → Option R
  | [], s, k => k s
  | o :: r, s, k => (guardPg ops o (opPg C o)).runK s fun v s' => match putDst o v s' with
    | some s'' => opsK C ops r s'' k
    | none => none

/-- what an operation looked at and what it wrote -/
structure Ft where
  rt : List Nat
  ro : List Nat
  wt : List Nat
  wo : List Nat

def Pg.runF {α R : Type} (s : St) : Pg α → Ft → (α → St → Ft → Option R) → Option R
  | .ret v, f, k => k v s f
  | .fail, _, _ => none
  | .rdT t g, f, k => (g (s.t t)).runF s { f with rt := t :: f.rt } k
  | .rdO o g, f, k => match s.o o with | some c => bif c.dead then none else (g c).runF s { f with ro := o :: f.ro } k | none => none
  | .wrO o c p, f, k => match s.o o with | some _ => p.runF (s.setO o c) { f with wo := o :: f.wo } k | none => none
  | .new o c p, f, k => match s.o o with | none => p.runF (s.setO o c) { f with wo := o :: f.wo } k | some _ => none
  | .br t p q, f, k => match s.t t with
    | .bool b => if b then p.runF (s.setT t (.bool true)) { f with rt := t :: f.rt } k else q.runF (s.setT t (.bool false)) { f with rt := t :: f.rt } k
    | _ => none
  | .test c d p, f, k => @ite _ c d (p.runF s f k) none
  | .bind _ m g, f, k => m.bind fun r => (g r).runF s f k
  | .opt _ m p g, f, k => match m with | none => p.runF s f k | some r => (g r).runF s f k

def meetN : List Nat → List Nat → Bool
  | [], _ => false
  | i :: r, l => memN i l || meetN r l
def Ft.clash (f g : Ft) : Bool := meetN f.wt g.rt || meetN f.wt g.wt || meetN f.rt g.wt || meetN f.wo g.ro || meetN f.wo g.wo || meetN f.ro g.wo

/-- the operations that come before each one, as bits: of the first i operations -/
def edgeBits : List Edge → List Nat → Nat
  | [], _ => 0
  | e :: r, ms => if Region.binds .any e then Nat.lor (Nat.lor (2 ^ e.on) (ms.getD e.on 0)) (edgeBits r ms) else edgeBits r ms
def masks : List Oper → List Nat → List Nat
  | [], ms => ms
  | o :: r, ms => masks r (ms ++ [edgeBits o.after.toList ms])
/-- all bound edges go back -/
def edgesBack : List Oper → Nat → Bool
  | [], _ => true
  | o :: r, i => (o.after.toList.all fun e => !Region.binds .any e || Nat.blt e.on i) && edgesBack r (i + 1)
def clashAll (ms : List Nat) (i : Nat) (f : Ft) : List (Nat × Ft) → Bool
  | [] => false
  | (j, g) :: r => (!(ms.getD i 0).testBit j && Ft.clash g f) || clashAll ms i f r

def opsF {R : Type} (C : Cx) (ops : List Oper) (ms : List Nat) : List Oper → Nat → St → List (Nat × Ft) → (St → Option R) → Option R
  | [], _, s, _, k => k s
  | o :: r, i, s, acc, k => (guardPg ops o (opPg C o)).runF s ⟨[], [], o.dst.toList, []⟩ fun v s' f =>
    bif clashAll ms i f acc then none else
    match putDst o v s' with
    | some s'' => opsF C ops ms r (i + 1) s'' ((i, f) :: acc) k
    | none => none

/-! ### code -/
inductive Ex where | normal | ret | exit (id : Nat)

structure Ann where
  keep : List Nat
  own : List (Nat × Ty)
  objs : List Nat

def AV.names : AV → List Nat
  | .ref o _ => [o]
  | .view o _ _ _ => [o]
  | .full o => [o]
  | .cons h t => h.names ++ t.names
  | .tup c => c.names
  | .iface _ v => v.names
  | _ => []
def subN : List Nat → List Nat → Bool
  | [], _ => true
  | i :: r, l => memN i l && subN r l
def ownOne (s : St) (t : Nat) (ty : Ty) : Option (AV × List Nat) := match s.t t with
  | .nils => some (.bk ty [], [])
  | .full o => match s.o o with
    | some (.bk t' xs) => match castL (u := ty) xs with | some ys => some (.bk ty ys, [o]) | none => none
    | _ => none
  | .view o [] off len => match s.o o with
    | some (.bk t' xs) => match castL (u := ty) xs with | some ys => some (.bk ty (win ys off len), [o]) | none => none
    | _ => none
  | _ => none
def ownAll (s : St) : List (Nat × Ty) → Option (List (Nat × AV) × List (Nat × AV) × List Nat)
  | [] => some ([], [], [])
  | (t, ty) :: r => match ownOne s t ty with
    | some (c, os) => match ownAll s r with
      | some (ts, obs, used) => some ((t, .full (300000 + t)) :: ts, (300000 + t, c) :: obs, os ++ used)
      | none => none
    | none => none
def keepT (s : St) : List Nat → List (Nat × AV)
  | [] => []
  | t :: r => (t, s.t t) :: keepT s r
def keepO (s : St) : List Nat → Option (List (Nat × AV))
  | [] => some []
  | o :: r => match s.o o with
    | some c => match keepO s r with | some l => some ((o, c) :: l) | none => none
    | none => none
def namesAll : List (Nat × AV) → List Nat
  | [] => []
  | (_, v) :: r => v.names ++ namesAll r
def nrm (a : Ann) (s : St) : Option St := match ownAll s a.own with
  | some (ts, obs, used) => match keepO s a.objs with
    | some l => bif nodupN (used ++ a.objs) && nodupN (namesOf (l ++ obs)) && subN (namesAll (keepT s a.keep) ++ namesAll l) a.objs then
        some ⟨s.n, ts ++ keepT s a.keep, l ++ obs⟩ else none
    | none => none
  | none => none

def firstRegion : Code → Nat
  | .region id _ _ => id
  | .seq a _ => firstRegion a
  | .block _ a => firstRegion a
  | .scope a => firstRegion a
  | .loop a => firstRegion a
  | _ => 0

def loopK {R : Type} (nm : St → Option St) (body : St → (Ex → St → Option R) → Option R) (k : Ex → St → Option R) : Nat → St → Option R
  | 0, _ => none
  | n + 1, s => body s fun e s' => match e with
    | .normal => (match nm s' with | some s'' => loopK nm body k n s'' | none => none)
    | .ret => k .ret s'
    | .exit i => k (.exit i) s'

def FUEL : Nat := 1048576

def evalK {R : Type} (C : Cx) (ann : Nat → Ann) : Code → St → (Ex → St → Option R) → Option R
  | .skip, s, k => k .normal s
  | .label _, s, k => k .normal s
  | .region _ ops draw, s, k =>
    if draw then (bif edgesBack ops.toList 0 then opsF C ops.toList (masks ops.toList []) ops.toList 0 s [] fun s' => k .normal s' else none)
    else opsK C ops.toList ops.toList s fun s' => k .normal s'
  | .seq a b, s, k => evalK C ann a s fun e s' => match e with
    | .normal => evalK C ann b s' k
    | .ret => k .ret s'
    | .exit i => k (.exit i) s'
  | .cond c a b, s, k => match c with
    | .tmp t => (match s.t t with
      | .bool x => if x then evalK C ann a (s.setT t (.bool true)) k else evalK C ann b (s.setT t (.bool false)) k
      | _ => none)
    | .const (.bool x) => if x then evalK C ann a s k else evalK C ann b s k
    | _ => none
  | .block id a, s, k => evalK C ann a s fun e s' => match e with
    | .exit j => (bif Nat.beq j id then k .normal s' else k (.exit j) s')
    | .normal => k .normal s'
    | .ret => k .ret s'
  | .scope a, s, k => evalK C ann a s k
  | .loop a, s, k => match nrm (ann (firstRegion a)) s with
    | some s' => loopK (nrm (ann (firstRegion a))) (evalK C ann a) k C.N s'
    | none => none
  | .exit id, s, k => k (.exit id) s
  | .ret, s, k => k .ret s
  | _, _, _ => none

/-! ### functions -/
def setArgs : AV → Nat → List (Nat × AV)
  | .cons v r, i => (i, v) :: setArgs r (i + 1)
  | _, _ => []
def SP.len : SP → Nat
  | .cons _ b => b.len + 1
  | _ => 0
def resVal {α : Type} (C : Cx) (r : ResultVar) (k : AV → Pg α) : Pg α := match r with
  | .tmp t => .rdT t k
  | .cell t T => .rdT t fun a => match a with
    | .ref o p => .rdO o fun c => (match AV.at p c with
      | some v => bif loadOk (C.D T) v then k v else .fail
      | none => .fail)
    | _ => .fail
def resVals {α : Type} (C : Cx) : List ResultVar → (List AV → Pg α) → Pg α
  | [], k => k []
  | r :: l, k => resVal C r fun v => resVals C l fun vs => k (v :: vs)
def finPg (C : Cx) (fn : Func) (g : Sig) (v : AV) (fin : g.rs.den × g.ps.odn → g.T) : Pg g.T :=
  resVals C fn.results.toList fun vs => exS g.rs (listAV vs) fun r own ro => exO g.ps v fun o own' ro' =>
    bif nodupN (own ++ own') then .ret (fin (r, o)) else .fail
/-- of the arguments: the pointers alone -/
def skel : AV → AV
  | .cons v r => .cons (match v with | .ref o p => .ref o p | .nilp => .nilp | _ => .top) (skel r)
  | v => v
/-- the arguments' objects are kept through every loop -/
def annP (names : List Nat) (ann : Nat → Ann) (i : Nat) : Ann := { ann i with objs := names ++ (ann i).objs }
/-- at the end of a function -/
def finK (C : Cx) (fn : Func) (g : Sig) (v : AV) (fin : g.rs.den × g.ps.odn → g.T) (e : Ex) (s : St) : Option g.T := match e with
  | .ret => (finPg C fn g v fin).runK s fun y _ => some y
  | .normal => (finPg C fn g v fin).runK s fun y _ => some y
  | .exit _ => none
def evalFn (C : Cx) (ann : Nat → Ann) (fn : Func) (c : Code) (g : Sig) (x : g.ps.den) (fin : g.rs.den × g.ps.odn → g.T) : Option g.T :=
  (inS (α := AV) g.ps x 100000 fun v objs _ => newAll objs (.ret v)).runK ⟨fn.ntmps, [], []⟩ fun v s =>
    evalK C (annP (namesOf s.ob) ann) c ⟨fn.ntmps, setArgs v 0, s.ob⟩ (finK C fn g (skel v) fin)

/-! ### places in code -/
/-- the code at a place: 0 leads to the first part, 1 to the second -/
def cAt : List Nat → Code → Code
  | [], c => c
  | i :: p, .seq a b => if i = 0 then cAt p a else cAt p b
  | i :: p, .cond _ a b => if i = 0 then cAt p a else cAt p b
  | _ :: p, .block _ a => cAt p a
  | _ :: p, .scope a => cAt p a
  | _ :: p, .loop a => cAt p a
  | _, _ => .skip
/-- what comes behind the code at a place; ns: the rounds that are left of the loops around it -/
def kAt {R : Type} (C : Cx) (ann : Nat → Ann) : List Nat → List Nat → Code → (Ex → St → Option R) → Ex → St → Option R
  | [], _, _, k => k
  | i :: p, ns, .seq a b, k => if i = 0 then kAt C ann p ns a (fun e s' => match e with
      | .normal => evalK C ann b s' k
      | .ret => k .ret s'
      | .exit i => k (.exit i) s') else kAt C ann p ns b k
  | i :: p, ns, .cond _ a b, k => if i = 0 then kAt C ann p ns a k else kAt C ann p ns b k
  | _ :: p, ns, .block id a, k => kAt C ann p ns a fun e s' => match e with
      | .exit j => (bif Nat.beq j id then k .normal s' else k (.exit j) s')
      | .normal => k .normal s'
      | .ret => k .ret s'
  | _ :: p, ns, .scope a, k => kAt C ann p ns a k
  | _ :: p, ns, .loop a, k => match ns with
    | n :: ns => kAt C ann p ns a fun e s' => match e with
      | .normal => (match nrm (ann (firstRegion a)) s' with | some s'' => loopK (nrm (ann (firstRegion a))) (evalK C ann a) k n s'' | none => none)
      | .ret => k .ret s'
      | .exit i => k (.exit i) s'
    | [] => k
  | _, _, _, k => k
/-- the loop at a place, with n rounds left -/
def loopAt {R : Type} (C : Cx) (ann : Nat → Ann) (p ns : List Nat) (c : Code) (k : Ex → St → Option R) (n : Nat) (s : St) : Option R :=
  loopK (nrm (ann (firstRegion (cAt (p ++ [0]) c)))) (evalK C ann (cAt (p ++ [0]) c)) (kAt C ann p ns c k) n s

/-! ### tables -/
def TI.none : TI := ⟨.other, 0, 0, .top, Option.none, false⟩
def mkD : List (Nat × TI) → Nat → TI
  | [], _ => TI.none
  | (i, t) :: r, T => bif Nat.beq i T then t else mkD r T
def mkG : List (Nat × Sig) → Nat → Option Sig
  | [], _ => none
  | (i, g) :: r, f => bif Nat.beq i f then some g else mkG r f
def mkA : List (Nat × Ann) → Nat → Ann
  | [], _ => ⟨[], [], []⟩
  | (i, a) :: r, f => bif Nat.beq i f then a else mkA r f
def codeOf (f : Func) : Code := match f.body with | some c => c | none => .skip
end Go.Ev
