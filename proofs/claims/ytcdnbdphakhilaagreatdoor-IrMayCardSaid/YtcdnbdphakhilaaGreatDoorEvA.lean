/- Lemmas: a symbolic evaluator of loaded code, first part: what it computes, and that its single operations are those of the model. No condition. -/
import Derived.Below
import Derived.Orders
import Derived.KernelRfl
import Derived.IntWalk
import Derived.WideLaws
import Derived.LaidEqlPtr
import Derived.Laws.Strings
import Derived.Deep.Upon
import Derived.Laws.Tables
set_option linter.unusedVariables false
set_option linter.unusedSimpArgs false
/- What slices may hold: kinds of elements, by a number of their own. -/
namespace Go.Proofs.YtcdnbdphakhilaaGreatDoor.Ev
/-- An instruction of A64 (its fields in order). -/
structure AInst where
  Op : Int
  W : Int
  D : Int
  N : Int
  M : Int
  A : Int
  Imm : BitVec 64
  Off : Int
  Cond : Int
  R : Int
  S : Int

/-- A step of an intermediate code; an instruction of x86-64 (their cells in order). -/
structure IOp where
  Kind : Int
  F : Int
  W : Int
  A : Int
  B : Int
  C : Int
  N : BitVec 64
  Signed : Bool
  Ord : Int
structure XInst where
  Op : Int
  W : Int
  W2 : Int
  AK : Int
  AR : Int
  AB : Int
  AI : Int
  AS : Int
  AD : Int
  BK : Int
  BR : Int
  BB : Int
  BI : Int
  BS : Int
  BD : Int
  Imm : Int
  Cc : Int
  Lock : Bool
  Rep : Bool
  Len : Int

/-- The kinds. -/
abbrev Dat : Nat → Type
  | 0 => BitVec 64
  | 1 => BitVec 32
  | 2 => Int
  | 3 => Bool
  | 4 => BitVec 8
  | 5 => List UInt8
  | 10 => AInst
  | 11 => IOp
  | 12 => XInst
  | _ => Unit
def datSize : Nat → Nat
  | 10 => 11
  | 11 => 9
  | 12 => 20
  | _ => 1
def dat0 : (t : Nat) → Dat t
  | 0 => (0#64 : BitVec 64)
  | 1 => (0#32 : BitVec 32)
  | 2 => (0 : Int)
  | 3 => false
  | 4 => (0#8 : BitVec 8)
  | 5 => ([] : List UInt8)
  | 6 | 7 | 8 | 9 => ()
  | 10 => (⟨0, 0, 0, 0, 0, 0, 0#64, 0, 0, 0, 0⟩ : AInst)
  | 11 => (⟨0, 0, 0, 0, 0, 0, 0#64, false, 0⟩ : IOp)
  | 12 => (⟨0, 0, 0, 0, 0, 0, 0, 0, 0, 0, 0, 0, 0, 0, 0, 0, 0, false, false, 0⟩ : XInst)
  | _ + 13 => ()
end Go.Proofs.YtcdnbdphakhilaaGreatDoor.Ev
/- A symbolic evaluator of loaded code: definitions. -/
namespace Go.Proofs.YtcdnbdphakhilaaGreatDoor.Ev

/-- Abstract values. Signed integers are whole numbers, unsigned ones words of bits. -/
inductive AV where
  | poison
  | i (k : IntKind) (n : Int)
  | u (w : Nat) (x : BitVec w)
  | b (x : Bool)
  | str (s : List UInt8)
  | nilp
  | nils
  | ptr (id off : Nat)
  | px (id off n i : Nat)
  | agg (cells : List AV)
  | tup (vs : List AV)
  | ar (n : Nat) (f : Nat → AV)
  | ro (sz n : Nat) (get : Nat → List AV)
  | vw (t : Nat) (xs : List (Dat t))
  | rp (cells : List AV) (off : Nat)
  | obj (cells : List AV)
  | fin (r : AV) (cs : List (List AV))
  | sit (s : List UInt8) (pos : Nat)
  | dead
  | gs (id ver : Nat)
  | pg (id ver sz i off : Nat)
  | row (e t : Nat) (xs : List (Dat t)) (ver : Nat)
  | clo (f : Nat) (caps : List AV)
  | osl (id off n : Nat)

abbrev Key := Nat × Nat
/-- From this number on: rows that are another function's. -/
abbrev big : Nat := 1099511627776

/-- An element's cells. -/
def enc : (t : Nat) → Dat t → List AV
  | 0, x => [.u 64 x]
  | 1, x => [.u 32 x]
  | 2, x => [.i .i64 x]
  | 3, x => [.b x]
  | 4, x => [.u 8 x]
  | 5, x => [.str x]
  | 6, _ | 7, _ | 8, _ | 9, _ => [.poison]
  | 10, x => [.i .i64 x.Op, .i .i64 x.W, .i .i64 x.D, .i .i64 x.N, .i .i64 x.M, .i .i64 x.A, .u 64 x.Imm, .i .i64 x.Off, .i .i64 x.Cond, .i .i64 x.R, .i .i64 x.S]
  | 11, x => [.i .i64 x.Kind, .i .i64 x.F, .i .i64 x.W, .i .i64 x.A, .i .i64 x.B, .i .i64 x.C, .u 64 x.N, .b x.Signed, .i .i64 x.Ord]
  | 12, x => [.i .i64 x.Op, .i .i64 x.W, .i .i64 x.W2, .i .i64 x.AK, .i .i64 x.AR, .i .i64 x.AB, .i .i64 x.AI, .i .i64 x.AS, .i .i64 x.AD, .i .i64 x.BK, .i .i64 x.BR, .i .i64 x.BB, .i .i64 x.BI, .i .i64 x.BS, .i .i64 x.BD, .i .i64 x.Imm, .i .i64 x.Cc, .b x.Lock, .b x.Rep, .i .i64 x.Len]
  | _ + 13, _ => [.poison]
/-- of a list's element. -/
def encAt (t : Nat) (xs : List (Dat t)) (i : Nat) : List AV := enc t (xs.getD i (dat0 t))

/-- The kind of an element, by its zero's cells; an element out of its cells. -/
def kindZ : List AV → Option Nat
  | [.u 64 _] => some 0
  | [.u 32 _] => some 1
  | [.i .i64 _] => some 2
  | [.b _] => some 3
  | [.u 8 _] => some 4
  | [.str _] => some 5
  | [.i .i64 _, .i .i64 _, .i .i64 _, .i .i64 _, .i .i64 _, .i .i64 _, .u 64 _, .i .i64 _, .i .i64 _, .i .i64 _, .i .i64 _] => some 10
  | [.i .i64 _, .i .i64 _, .i .i64 _, .i .i64 _, .i .i64 _, .i .i64 _, .u 64 _, .b _, .i .i64 _] => some 11
  | [.i .i64 _, .i .i64 _, .i .i64 _, .i .i64 _, .i .i64 _, .i .i64 _, .i .i64 _, .i .i64 _, .i .i64 _, .i .i64 _, .i .i64 _, .i .i64 _, .i .i64 _, .i .i64 _, .i .i64 _, .i .i64 _, .i .i64 _, .b _, .b _, .i .i64 _] => some 12
  | _ => none
def dec : (t : Nat) → List AV → Option (Dat t)
  | 0, [.u 64 x] => some x
  | 1, [.u 32 x] => some x
  | 2, [.i .i64 x] => some x
  | 3, [.b x] => some x
  | 4, [.u 8 x] => some x
  | 5, [.str x] => some x
  | 10, [.i .i64 op, .i .i64 w, .i .i64 d, .i .i64 n, .i .i64 m, .i .i64 a, .u 64 imm, .i .i64 off, .i .i64 cond, .i .i64 r, .i .i64 s] => some (⟨op, w, d, n, m, a, imm, off, cond, r, s⟩ : AInst)
  | 11, [.i .i64 a0, .i .i64 a1, .i .i64 a2, .i .i64 a3, .i .i64 a4, .i .i64 a5, .u 64 a6, .b a7, .i .i64 a8] => some (⟨a0, a1, a2, a3, a4, a5, a6, a7, a8⟩ : IOp)
  | 12, [.i .i64 a0, .i .i64 a1, .i .i64 a2, .i .i64 a3, .i .i64 a4, .i .i64 a5, .i .i64 a6, .i .i64 a7, .i .i64 a8, .i .i64 a9, .i .i64 a10, .i .i64 a11, .i .i64 a12, .i .i64 a13, .i .i64 a14, .i .i64 a15, .i .i64 a16, .b a17, .b a18, .i .i64 a19] => some (⟨a0, a1, a2, a3, a4, a5, a6, a7, a8, a9, a10, a11, a12, a13, a14, a15, a16, a17, a18, a19⟩ : XInst)
  | _, _ => none
/-- Some elements of a row, one behind another. -/
def decN (t : Nat) (get : Nat → List AV) : Nat → Nat → Option (List (Dat t))
  | 0, _ => some []
  | n + 1, k => match dec t (get k), decN t get n (k + 1) with
    | some x, some l => some (x :: l)
    | _, _ => none

/-- What is known of a type: its own description, its size in cells, its zero value's cells. -/
inductive TD where
  | int (k : IntKind) | bool | string
  | struct (fields : List (Nat × TypeId))
  | array (n : Nat) (e : TypeId)
  | slice (e : TypeId)
  | pointer (e : TypeId)
  | other

structure TyI where
  desc : TD
  size : Nat
  eq : Bool
  zero : List AV

def isAggD : TD → Bool
  | .struct _ | .array _ _ => true
  | _ => false

/-- What stands for an object that has no cells: a string's iterator, or one of which nothing is told. -/
def AV.spec : AV → Bool
  | .sit _ _ | .dead | .row _ _ _ _ => true
  | _ => false

def AV.width : AV → Nat
  | .ar n _ => n
  | _ => 1

/-- A scalar that leads nowhere. -/
def AV.plain : AV → Bool
  | .i _ _ | .u _ _ | .b _ | .str _ | .nilp | .nils => true
  | _ => false

/-- One that leads nowhere at all, or of which nothing is told. -/
def AV.flat : AV → Bool
  | .poison | .i _ _ | .u _ _ | .b _ | .str _ | .nilp | .nils => true
  | _ => false
def AV.flatC : AV → Bool
  | .ar _ _ => true
  | a => a.flat
def AV.flatV : AV → Bool
  | .agg l => l.all AV.flatC
  | a => a.flat
def AV.flatR : AV → Bool
  | .tup l => l.all AV.flatV
  | a => a.flatV

def AV.single : AV → Bool
  | .ar _ _ | .agg _ | .tup _ | .obj _ | .fin _ _ | .sit _ _ | .dead | .row _ _ _ _ => false
  | _ => true

def isU : IntKind → Option Nat
  | .u8 => some 8 | .u16 => some 16 | .u32 => some 32 | .u64 => some 64
  | _ => none

/-- A whole number of a kind. -/
def mkI (k : IntKind) (n : Int) : AV :=
  match decide (k.min ≤ n) && decide (n ≤ k.max) with
  | true => match isU k with
    | some w => .u w (BitVec.ofInt w n)
    | none => .i k n
  | false => .poison

def ofVal : Value → AV
  | .int k n => mkI k n
  | .bool x => .b x
  | .pointer none => .nilp
  | .slice none 0 0 => .nils
  | .string s => match Nat.ble s.data.toList.length 9223372036854775807 with
    | true => .str s.data.toList
    | false => .poison
  | _ => .poison

def ofCells (cs : Array Value) : List AV := cs.toList.map ofVal

/-! ### Trees -/
inductive Tr (α : Type) where
  | fail
  | leaf (a : α)
  | ite (c : Bool) (t e : Tr α)
  | need (c : Bool) (t : Tr α)

namespace Tr
variable {α β : Type}
def run : Tr α → Option α
  | fail => none
  | leaf a => some a
  | ite c t e => if c = true then t.run else e.run
  | need c t => if c = true then t.run else none
def bind (t : Tr α) (k : α → Tr β) : Tr β :=
  match t with
  | fail => fail
  | leaf a => k a
  | ite c t e => ite c (t.bind k) (e.bind k)
  | need c t => need c (t.bind k)
def needs : List Bool → Tr α → Tr α
  | [], t => t
  | c :: cs, t => need c (needs cs t)
end Tr

/-! ### States -/
structure St where
  env : List (Nat × AV)
  mem : List (Key × AV)
  ids : List (Nat × Nat)
  cut : Nat

def look {κ : Type} [BEq κ] : List (κ × AV) → κ → Option AV
  | [], _ => none
  | (k, v) :: l, x => match k == x with
    | true => some v
    | false => look l x

/-! ### Merging -/
def bsel (c x y : Bool) : Bool := match c with | true => x | false => y

/-- of scalars. -/
def merge0 (c : Bool) : AV → AV → AV
  | .i k n, .i k' m => if k = k' then .i k (if c = true then n else m) else .poison
  | .u w x, .u w' y => if h : w' = w then .u w (if c = true then x else h ▸ y) else .poison
  | .b x, .b y => .b (if c = true then x else y)
  | .str s, .str t => .str (if c = true then s else t)
  | _, _ => .poison

def mergeR0 (c : Bool) : List AV → List AV → Option (List AV)
  | [], [] => some []
  | x :: xs, y :: ys => match x.single && y.single, mergeR0 c xs ys with
    | true, some zs => some (merge0 c x y :: zs)
    | _, _ => none
  | _, _ => none

/-- of elements. -/
def mergeRow (c : Bool) (xs ys : List AV) : List AV := match mergeR0 c xs ys with
  | some l => l
  | none => if c = true then xs else ys

/-- of slices. -/
def mergeS (c : Bool) : AV → AV → Option AV
  | .vw t xs, .vw t' ys => if h : t' = t then some (.vw t (if c = true then xs else h ▸ ys)) else none
  | .nils, .vw t xs => some (.vw t (if c = true then [] else xs))
  | .vw t xs, .nils => some (.vw t (if c = true then xs else []))
  | .ro s n f, .ro s' n' g => if s = s' then some (.ro s (if c = true then n else n') (fun i => mergeRow c (f i) (g i))) else none
  | .nils, .ro s n f => some (.ro s (if c = true then 0 else n) f)
  | .ro s n f, .nils => some (.ro s (if c = true then n else 0) f)
  | _, _ => none

def merge1 (c : Bool) (x y : AV) : AV := match mergeS c x y with
  | some z => z
  | none => match x, y with
    | .nilp, .nilp => .nilp
    | .nils, .nils => .nils
    | .ptr a o, .ptr a' o' => if a = a' ∧ o = o' then .ptr a o else .poison
    | .gs a v, .gs a' v' => if a = a' ∧ v = v' then .gs a v else .poison
    | x, y => merge0 c x y

def mergeC (c : Bool) : AV → AV → Option AV
  | .ar n f, .ar m g => if n = m then some (.ar n (fun j => merge0 c (f j) (g j))) else none
  | x, y => match x.single && y.single with
    | true => some (merge1 c x y)
    | false => none

def mergeCs (c : Bool) : List AV → List AV → Option (List AV)
  | [], [] => some []
  | x :: xs, y :: ys => match mergeC c x y, mergeCs c xs ys with
    | some z, some zs => some (z :: zs)
    | _, _ => none
  | _, _ => none

/-- one of two, by a test. -/
def merge (c : Bool) : AV → AV → AV
  | .agg xs, .agg ys => match mergeCs c xs ys with
    | some l => .agg l
    | none => .poison
  | .agg _, _ => .poison
  | x, y => match mergeC c x y with
    | some z => z
    | none => .poison

/-! ### Operations on numbers -/
def opI (op : BinOp) (k : IntKind) (a b : Int) : Option (List Bool × AV) :=
  match op with
  | .add => some ([], .i k (k.wrap (a + b)))
  | .sub => some ([], .i k (k.wrap (a - b)))
  | .mul => some ([], .i k (k.wrap (a * b)))
  | .quo => some ([!(b == 0)], .i k (k.wrap (a.tdiv b)))
  | .rem => some ([!(b == 0)], .i k (a.tmod b))
  | .and => some ([], .i k ((BitVec.ofInt k.bits a &&& BitVec.ofInt k.bits b).toInt))
  | .or => some ([], .i k ((BitVec.ofInt k.bits a ||| BitVec.ofInt k.bits b).toInt))
  | .xor => some ([], .i k ((BitVec.ofInt k.bits a ^^^ BitVec.ofInt k.bits b).toInt))
  | .andNot => some ([], .i k ((BitVec.ofInt k.bits a &&& ~~~ BitVec.ofInt k.bits b).toInt))
  | .eql => some ([], .b (a == b))
  | .neq => some ([], .b (a != b))
  | .lss => some ([], .b (decide (a < b)))
  | .leq => some ([], .b (decide (a ≤ b)))
  | .gtr => some ([], .b (decide (b < a)))
  | .geq => some ([], .b (decide (b ≤ a)))
  | _ => none

def opU (op : BinOp) (w : Nat) (a b : BitVec w) : Option (List Bool × AV) :=
  match op with
  | .add => some ([], .u w (a + b))
  | .sub => some ([], .u w (a - b))
  | .mul => some ([], .u w (a * b))
  | .quo => some ([!(b == 0#w)], .u w (a / b))
  | .rem => some ([!(b == 0#w)], .u w (a % b))
  | .and => some ([], .u w (a &&& b))
  | .or => some ([], .u w (a ||| b))
  | .xor => some ([], .u w (a ^^^ b))
  | .andNot => some ([], .u w (a &&& ~~~ b))
  | .eql => some ([], .b (a == b))
  | .neq => some ([], .b (a != b))
  | .lss => some ([], .b (decide (a.toNat < b.toNat)))
  | .leq => some ([], .b (decide (a.toNat ≤ b.toNat)))
  | .gtr => some ([], .b (decide (b.toNat < a.toNat)))
  | .geq => some ([], .b (decide (b.toNat ≤ a.toNat)))
  | _ => none

/-- A count of a shift: what must hold, and how far. -/
def count : AV → Option (List Bool × Nat)
  | .i _ n => some ([decide (0 ≤ n)], n.toNat)
  | .u _ x => some ([], x.toNat)
  | _ => none

def opShift (op : BinOp) (n : Nat) : AV → Option AV
  | .i k a => match op with
    | .shl => some (.i k (k.wrap (a * 2 ^ n)))
    | _ => some (.i k (a / 2 ^ n))
  | .u w a => match op with
    | .shl => some (.u w (a <<< n))
    | _ => some (.u w (a >>> n))
  | _ => none

def isShift : BinOp → Bool
  | .shl | .shr => true
  | _ => false

/-- '==' of scalars that are told. -/
def eqAV : AV → AV → Option Bool
  | .i k a, .i k' b => if k = k' then some (a == b) else none
  | .u w a, .u w' b => if h : w' = w then some (a == h ▸ b) else none
  | .b a, .b b => some (a == b)
  | .str a, .str b => some (a == b)
  | .nilp, .nilp => some true
  | .ptr _ _, .nilp => some false
  | .nilp, .ptr _ _ => some false
  | _, _ => none

def widthC : List AV → Nat
  | [] => 0
  | x :: l => x.width + widthC l

/-- of rows. -/
def allB : Nat → (Nat → Option Bool) → Option Bool
  | 0, _ => some true
  | n + 1, f => match allB n f, f n with
    | some p, some q => some (p && q)
    | _, _ => none

/-- of one kind, as a pattern has it. -/
def eqZ : AV → AV → AV → Option Bool
  | .i k _, .i k1 a, .i k2 b => if k1 = k ∧ k2 = k then some (a == b) else none
  | .u w _, .u w1 x, .u w2 y => if h1 : w1 = w then if h2 : w2 = w then some ((h1 ▸ x : BitVec w) == (h2 ▸ y : BitVec w)) else none else none
  | .b _, .b x, .b y => some (x == y)
  | .str _, .str s, .str t => some (s == t)
  | _, _, _ => none
/-- Cells, laid as a pattern has them. -/
def eqCells : List AV → List AV → List AV → Option Bool
  | [], [], [] => some true
  | .ar n z :: zs, .ar n1 f :: xs, .ar n2 g :: ys => match (n1 == n) && (n2 == n), allB n (fun j => eqZ (z j) (f j) (g j)), eqCells zs xs ys with
    | true, some p, some q => some (p && q)
    | _, _, _ => none
  | .ar _ _ :: _, _, _ => none
  | z :: zs, x :: xs, y :: ys => match eqZ z x y, eqCells zs xs ys with
    | some p, some q => some (p && q)
    | _, _ => none
  | _, _, _ => none

def eqOp (op : BinOp) (e : Bool) : Option (List Bool × AV) :=
  match op with
  | .eql => some ([], .b e)
  | .neq => some ([], .b (!e))
  | _ => none

def opStr (op : BinOp) (s t : List UInt8) : Option (List Bool × AV) :=
  match op with
  | .add => some ([decide (s.length + t.length ≤ 9223372036854775807)], .str (s ++ t))
  | _ => eqOp op (s == t)

def evBin (T : TypeId → Option TyI) (op : BinOp) (t : TypeId) (x y : AV) : Option (List Bool × AV) :=
  match isShift op with
  | true => match count y with
    | some (c, n) => match opShift op n x with
      | some v => some (c, v)
      | none => none
    | none => none
  | false => match x with
    | .i k a => match y with
      | .i k' b => if k' = k then opI op k a b else none
      | _ => none
    | .u w a => match y with
      | .u w' b => if h : w' = w then opU op w a (h ▸ b) else none
      | _ => none
    | .str s => match y with
      | .str t => opStr op s t
      | _ => none
    | .b a => match y, T t with
      | .b b, some d => match d.desc with
        | .bool => eqOp op (a == b)
        | _ => none
      | _, _ => none
    | .agg xs => match y, T t with
      | .agg ys, some d => match d.eq && isAggD d.desc && (widthC xs == d.size) && (widthC ys == d.size) with
        | true => match eqCells d.zero xs ys with
          | some e => eqOp op e
          | none => none
        | false => none
      | _, _ => none
    | .nilp => match y, T t with
      | .nilp, some d => match d.desc with
        | .pointer _ => eqOp op true
        | _ => none
      | .ptr _ _, some d => match d.desc with
        | .pointer _ => eqOp op false
        | _ => none
      | _, _ => none
    | .ptr _ _ => match y, T t with
      | .nilp, some d => match d.desc with
        | .pointer _ => eqOp op false
        | _ => none
      | _, _ => none
    | .rp _ _ => match y, T t with
      | .nilp, some d => match d.desc with
        | .pointer _ => eqOp op false
        | _ => none
      | _, _ => none
    | _ => none

def evUn (op : UnOp) : AV → Option AV
  | .i k n => match op with
    | .neg => some (.i k (k.wrap (-n)))
    | .xor => some (.i k (-1 - n))
    | _ => none
  | .u w x => match op with
    | .neg => some (.u w (-x))
    | .xor => some (.u w (~~~x))
    | _ => none
  | .b x => match op with
    | .not => some (.b (!x))
    | _ => none
  | _ => none

def evConv (d : TD) : AV → Option AV
  | .i _ n => match d with
    | .int k => some (match isU k with | some w => .u w (BitVec.ofInt w n) | none => .i k (k.wrap n))
    | _ => none
  | .u _ x => match d with
    | .int k => some (match isU k with | some w => .u w (x.setWidth w) | none => .i k (k.wrap (x.toNat : Int)))
    | _ => none
  | _ => none

/-! ### Cells -/
def AV.cells : AV → List AV
  | .agg l => l
  | v => [v]

/-- It may stand in cells. -/
def AV.cellable : AV → Bool
  | .poison | .ar _ _ | .tup _ | .obj _ | .fin _ _ | .sit _ _ | .dead | .row _ _ _ _ | .pg _ _ _ _ _ => false
  | _ => true

/-- A list parted behind n cells. -/
def splitC : List AV → Nat → Option (List AV × List AV)
  | l, 0 => some ([], l)
  | [], _ + 1 => none
  | x :: l, n + 1 => match Nat.ble x.width (n + 1) with
    | true => match splitC l (n + 1 - x.width) with
      | some (p, q) => some (x :: p, q)
      | none => none
    | false => none

/-- A part of a value: as one value. -/
def partC (d : TyI) (cells : List AV) (off : Nat) : Option AV :=
  match splitC cells off with
  | some (_, q) => match isAggD d.desc with
    | true => match splitC q d.size with
      | some (p, _) => some (.agg p)
      | none => none
    | false => match q with
      | x :: _ => match x.single with
        | true => some x
        | false => none
      | [] => none
  | none => none

def listU (w : Nat) : List AV → Option (List (BitVec w))
  | [] => some []
  | .u w' x :: l => if h : w' = w then match listU w l with
      | some r => some ((h ▸ x) :: r)
      | none => none
    else none
  | _ => none
def listI (k : IntKind) : List AV → Option (List Int)
  | [] => some []
  | .i k' x :: l => if k' = k then match listI k l with
      | some r => some (x :: r)
      | none => none
    else none
  | _ => none
def listB : List AV → Option (List Bool)
  | [] => some []
  | .b x :: l => match listB l with
      | some r => some (x :: r)
      | none => none
  | _ => none
def listS : List AV → Option (List (List UInt8))
  | [] => some []
  | .str x :: l => match listS l with
      | some r => some (x :: r)
      | none => none
  | _ => none

/-- A row of scalars of one kind, by its index. -/
def rowF (l : List AV) : Option (Nat → AV) :=
  match l with
  | .u w _ :: _ => match listU w l with
    | some r => some fun j => .u w (r.getD j 0)
    | none => none
  | .i k _ :: _ => match listI k l with
    | some r => some fun j => .i k (r.getD j 0)
    | none => none
  | .b _ :: _ => match listB l with
    | some r => some fun j => .b (r.getD j false)
    | none => none
  | .str _ :: _ => match listS l with
    | some r => some fun j => .str (r.getD j [])
    | none => none
  | _ => none

/-! ### One operation -/
structure CallRes where
  pre : List Bool
  res : AV
def CallRes.val (r : CallRes) : AV := match r.res with
  | .fin x _ => x
  | x => x
def CallRes.outs (r : CallRes) : List (List AV) := match r.res with
  | .fin _ cs => cs
  | _ => []

abbrev CSpec := List AV → Option CallRes

structure OpR where
  pre : List Bool
  v : AV
  rd : List Key
  wr : List (Key × AV)
  al : List (Nat × Nat)

def val (v : AV) : Option OpR := some ⟨[], v, [], [], []⟩
def valN (c : List Bool) (v : AV) : Option OpR := some ⟨c, v, [], [], []⟩

/-- The cells of an object from a place on, as they stand. -/
def readC (m : Key → Option AV) (id : Nat) : Nat → Nat → Nat → Option (List AV)
  | 0, _, _ => some []
  | _ + 1, _, 0 => some []
  | fuel + 1, off, n + 1 => match m (id, off) with
    | some x => match Nat.ble x.width (n + 1) && !x.spec with
      | true => match readC m id fuel (off + x.width) (n + 1 - x.width) with
        | some l => some (x :: l)
        | none => none
      | false => none
    | none => none

/-- Cells laid over what stands, the last first. -/
def keysAcc (id : Nat) : Nat → List AV → List (Key × AV) → List (Key × AV)
  | _, [], acc => acc
  | off, x :: l, acc => keysAcc id (off + x.width) l (((id, off), x) :: acc)

def keysFrom (id off n : Nat) : List Key := (List.range n).map fun j => (id, off + j)

/-- Are there cells of the same widths? -/
def fitsW (m : Key → Option AV) (id : Nat) : Nat → List AV → Bool
  | _, [] => true
  | off, x :: l => match m (id, off) with
    | some y => ((y.width == x.width) && !y.spec) && fitsW m id (off + x.width) l
    | none => false

def fieldOf (T : TypeId → Option TyI) (t f : Nat) : Option (Nat × TypeId) :=
  match T t with
  | some d => match d.desc with
    | .struct fs => match fs[f]? with
      | some g => some g
      | none => none
    | _ => none
  | none => none

def evLoad (T : TypeId → Option TyI) (m : Key → Option AV) (t : TypeId) (p : AV) : Option OpR :=
  match T t with
  | none => none
  | some d =>
    match p with
    | .ptr id off => match isAggD d.desc with
      | true => match readC m id d.size off d.size with
        | some l => some ⟨[], .agg l, keysFrom id off d.size, [], []⟩
        | none => none
      | false => match m (id, off) with
        | some v => match v.single with
          | true => some ⟨[], v, [(id, off)], [], []⟩
          | false => none
        | none => none
    | .px id off n i => match m (id, off) with
      | some (.ar n' f) => match (n' == n) && !(isAggD d.desc) with
        | true => some ⟨[], f i, [(id, off)], [], []⟩
        | false => none
      | _ => none
    | .rp cells off => match partC d cells off with
      | some v => val v
      | none => none
    | _ => none

def evStore (T : TypeId → Option TyI) (m : Key → Option AV) (t : TypeId) (p v : AV) : Option OpR :=
  match T t with
  | none => none
  | some d =>
    match p with
    | .ptr id off => match v.cellable && (widthC v.cells == d.size) && fitsW m id off v.cells with
      | true => some ⟨[], .poison, [], keysAcc id off v.cells [], []⟩
      | false => none
    | .px id off n i => match m (id, off) with
      | some (.ar n' f) => match (d.size == 1) && v.plain && (n' == n) && !(isAggD d.desc) with
        | true => some ⟨[], .poison, [(id, off)], [((id, off), .ar n' fun j => merge0 (decide (j = i)) v (f j))], []⟩
        | false => none
      | _ => none
    | _ => none

/-- A place told by a number. -/
def ixI : AV → Option Int
  | .i _ n => some n
  | .u _ x => some (x.toNat : Int)
  | _ => none

def evIndexAddr (T : TypeId → Option TyI) (t : TypeId) (x ix : AV) : Option OpR :=
  match T t, ixI ix with
  | some d, some i =>
    match d.desc, x with
    | .array n e, .ptr id off => match T e with
      | some de => match de.size == 1 with
        | true => valN [decide (0 ≤ i), decide (i < (n : Int))] (.px id off n i.toNat)
        | false => none
      | none => none
    | .array n e, .rp l off => match T e, splitC l off with
      | some de, some (_, .ar n' f :: _) => match (de.size == 1) && (n' == n) with
        | true => valN [decide (0 ≤ i), decide (i < (n : Int))] (.rp [f i.toNat] 0)
        | false => none
      | _, _ => none
    | .slice e, .ro sz n get => match T e with
      | some de => match de.size == sz with
        | true => valN [decide (0 ≤ i), decide (i < (n : Int))] (.rp (get i.toNat) 0)
        | false => none
      | none => none
    | .slice e, .vw t xs => match T e with
      | some de => match de.size == datSize t with
        | true => valN [decide (0 ≤ i), decide (i < (xs.length : Int))] (.rp (encAt t xs i.toNat) 0)
        | false => none
      | none => none
    | .slice e, .osl id off n => match T e with
      | some de => match de.size == 1 with
        | true => valN [decide (0 ≤ i), decide (i < (n : Int))] (.ptr id (off + i.toNat))
        | false => none
      | none => none
    | _, _ => none
  | _, _ => none

def evIndex (T : TypeId → Option TyI) (t : TypeId) (x ix : AV) : Option OpR :=
  match T t, ixI ix with
  | some d, some i =>
    match d.desc, x with
    | .array n e, .agg [.ar n' f] => match T e with
      | some de => match (n' == n) && (de.size == 1) && !(isAggD de.desc) with
        | true => valN [decide (0 ≤ i), decide (i < (n : Int))] (f i.toNat)
        | false => none
      | none => none
    | .string, .str s => valN [decide (0 ≤ i), decide (i < (s.length : Int))] (.u 8 (s.getD i.toNat 0).toBitVec)
    | _, _ => none
  | _, _ => none

def evFieldAddr (T : TypeId → Option TyI) (t : TypeId) (x : AV) (f : Nat) : Option OpR :=
  match fieldOf T t f with
  | some (o, ft) => match T ft with
    | some d => match d.size == 0 with
      | true => none
      | false => match x with
        | .ptr id off => val (.ptr id (off + o))
        | .rp cells off => val (.rp cells (off + o))
        | .pg id v sz i off => val (.pg id v sz i (off + o))
        | _ => none
    | none => none
  | none => none

def evField (T : TypeId → Option TyI) (t : TypeId) (x : AV) (f : Nat) : Option OpR :=
  match fieldOf T t f, x with
  | some (o, ft), .agg cells => match T ft with
    | some d => match partC d cells o with
      | some v => val v
      | none => none
    | none => none
  | _, _ => none

/-- The parts of a struct laid into cells. -/
def evParts (T : TypeId → Option TyI) (t : TypeId) : List AV → List (Nat × AV) → Option (List AV)
  | cells, [] => some cells
  | cells, (f, v) :: rest => match fieldOf T t f with
    | some (o, ft) => match T ft with
      | some d => match splitC cells o with
        | some (p, q) => match splitC q d.size with
          | some (_, r) => match v.cellable && (widthC v.cells == d.size) with
            | true => evParts T t (p ++ v.cells ++ r) rest
            | false => none
          | none => none
        | none => none
      | none => none
    | none => none

/-- The elements of an array that is told element by element: scalars alone. -/
def evArr : Nat → List (Nat × AV) → Option (List AV)
  | _, [] => some []
  | k, (i, v) :: rest => match (i == k) && v.plain with
    | true => match evArr (k + 1) rest with
      | some l => some (v :: l)
      | none => none
    | false => none
def isI64 : AV → Bool
  | .i .i64 _ => true
  | _ => false
def isU32 : AV → Bool
  | .u 32 _ => true
  | _ => false
def unI64 : AV → Int
  | .i .i64 n => n
  | _ => 0
def unU32 : AV → BitVec 32
  | .u 32 x => x
  | _ => 0#32
/-- Their choice by a number: of one kind, where they are. -/
def arFn (l : List AV) : Nat → AV := match l.all isI64 with
  | true => fun j => .i .i64 ((l.map unI64).getD j 0)
  | false => match l.all isU32 with
    | true => fun j => .u 32 ((l.map unU32).getD j 0#32)
    | false => fun j => l.getD j .nilp
def evBuild (T : TypeId → Option TyI) (t : TypeId) (parts : List (Nat × AV)) : Option OpR :=
  match T t with
  | some d => match d.desc with
    | .struct _ => match evParts T t d.zero parts with
      | some l => val (.agg l)
      | none => none
    | .array n e => match T e, evArr 0 parts with
      | some de, some l => match (de.size == 1) && ((l.length == n) && ((widthC d.zero == n) && Nat.blt 0 n)) with
        | true => val (.agg [.ar n (arFn l)])
        | false => none
      | _, _ => none
    | _ => none
  | none => none

/-- It leads to no object of one's own. -/
def bareS : AV → Bool
  | .osl _ _ _ | .clo _ _ | .ptr _ _ | .px _ _ _ _ | .agg _ | .tup _ | .obj _ | .fin _ _ | .sit _ _ | .dead | .gs _ _ | .pg _ _ _ _ _ | .row _ _ _ _ => false
  | _ => true
def bare1 : AV → Bool
  | .clo _ l => l.all bareS
  | a => bareS a
def bareV : AV → Bool
  | .agg l => l.all bare1
  | v => bare1 v
/-- What a function that is led to objects may hand back. -/
def bareR : AV → Bool
  | .dead => false
  | _ => true

/-- The elements of a slice that is told element by element. -/
def evRow (sz : Nat) : Nat → List (Nat × AV) → Option (List (List AV))
  | _, [] => some []
  | k, (i, v) :: rest => match (i == k) && (v.cellable && (widthC v.cells == sz)) with
    | true => match evRow sz (k + 1) rest with
      | some l => some (v.cells :: l)
      | none => none
    | false => none

def isR64 : List AV → Bool
  | [.i .i64 _] => true
  | _ => false
def unR64 : List AV → Int
  | [.i .i64 n] => n
  | _ => 0
/-- Their choice by a number: words of one kind, where they are. -/
def rowFn (rows : List (List AV)) : Nat → List AV := match rows.all isR64 with
  | true => fun j => [.i .i64 ((rows.map unR64).getD j 0)]
  | false => fun j => rows.getD j []

def evBuildSlice (T : TypeId → Option TyI) (t : TypeId) (n : Nat) (parts : List (Nat × AV)) : Option OpR :=
  match T t with
  | some d => match d.desc with
    | .slice e => match T e with
      | some de => match evRow de.size 0 parts with
        | some rows => match (rows.length == n) && (Nat.ble 1 (n * de.size) && (Nat.ble (n * de.size) 16777216 && parts.all fun p => bareV p.2)) with
          | true => val (.ro de.size n (rowFn rows))
          | false => none
        | none => none
      | none => none
    | _ => none
  | none => none

/-- The kind of a slice's elements. -/
def kindOf (T : TypeId → Option TyI) (t : TypeId) : Option Nat := match T t with
  | some d => match d.desc with
    | .slice e => match T e with
      | some de => kindZ de.zero
      | none => none
    | _ => none
  | none => none
/-- Elements of a known kind, as a list. -/
def packV (T : TypeId → Option TyI) (t : TypeId) : AV → AV
  | .ro sz n get => match kindOf T t with
    | some k => match sz == datSize k, decN k get n 0 with
      | true, some l => .vw k l
      | _, _ => .ro sz n get
    | none => .ro sz n get
  | x => x
def packR (T : TypeId → Option TyI) (t : TypeId) (r : OpR) : OpR := ⟨r.pre, packV T t r.v, r.rd, r.wr, r.al⟩
def isPtr : AV → Bool
  | .ptr _ _ => true
  | _ => false
/-- A slice of pointers, as an object of one's own. -/
def evBuildPtrs (T : TypeId → Option TyI) (ids : List (Nat × Nat)) (dst : Option Nat) (t : TypeId) (n : Nat) (parts : List (Nat × AV)) : Option OpR :=
  match T t, dst with
  | some d, some id => match d.desc, ids.lookup id with
    | .slice e, none => match T e with
      | some de => match evRow de.size 0 parts with
        | some rows => match (rows.length == n) && ((de.size == 1) && (Nat.ble 1 n && (Nat.ble n 16777216 && parts.all fun p => isPtr p.2))) with
          | true => some ⟨[], .osl id 0 n, [], keysAcc id 0 (parts.map (·.2)) [], [(id, widthC (parts.map (·.2)))]⟩
          | false => none
        | none => none
      | none => none
    | _, _ => none
  | _, _ => none
/-- A bound of a slice. -/
def bnd (d : Nat) : Option AV → Option Int
  | none => some d
  | some v => ixI v
def evSlice (T : TypeId → Option TyI) (t : TypeId) (x : AV) (lo hi : Option AV) : Option OpR :=
  match T t with
  | some d => match d.desc, x with
    | .slice e, .ro sz n get => match T e, bnd 0 lo, bnd n hi with
      | some de, some l, some h => match de.size == sz with
        | true => valN [decide (0 ≤ l), decide (l ≤ h), decide (h ≤ (n : Int))] (.ro sz (h.toNat - l.toNat) (fun i => get (l.toNat + i)))
        | false => none
      | _, _, _ => none
    | .slice e, .vw t xs => match T e, bnd 0 lo, bnd xs.length hi with
      | some de, some l, some h => match de.size == datSize t with
        | true => valN [decide (0 ≤ l), decide (l ≤ h), decide (h ≤ (xs.length : Int))] (.vw t ((xs.drop l.toNat).take (h.toNat - l.toNat)))
        | false => none
      | _, _, _ => none
    | .string, .str s => match bnd 0 lo, bnd s.length hi with
      | some l, some h => valN [decide (0 ≤ l), decide (l ≤ h), decide (h ≤ (s.length : Int))] (.str ((s.drop l.toNat).take (h.toNat - l.toNat)))
      | _, _ => none
    | _, _ => none
  | none => none

def evBuiltin (T : TypeId → Option TyI) (b : Builtin) (ts : List TypeId) (vs : List AV) : Option OpR :=
  match b, ts, vs with
  | .len, t :: _, [x] => match T t with
    | some d => match d.desc, x with
      | .string, .str s => val (.i .i64 (s.length : Int))
      | .slice _, .ro _ n _ => val (.i .i64 (n : Int))
      | .slice _, .vw _ xs => val (.i .i64 (xs.length : Int))
      | .slice _, .nils => val (.i .i64 0)
      | .slice _, .osl _ _ n => val (.i .i64 (n : Int))
      | _, _ => none
    | none => none
  | .min, _, [.i k a, .i k' b] => if k' = k then val (.i k (if decide (b < a) = true then b else a)) else none
  | .max, _, [.i k a, .i k' b] => if k' = k then val (.i k (if decide (a < b) = true then b else a)) else none
  | _, _, _ => none

def sizeIn (ids : List (Nat × Nat)) (id : Nat) : Option Nat := ids.lookup id

/-- What is put behind a row: which keys are read, and the elements. -/
def evNews (m : Key → Option AV) (t : Nat) : AV → Option (List Key × List (Dat t))
  | .nils => some ([], [])
  | .ro sz n get => match sz == datSize t, decN t get n 0 with
    | true, some l => some ([], l)
    | _, _ => none
  | .vw t' ys => if h : t' = t then some ([], h ▸ ys) else none
  | .gs id v => match m (id, 0) with
    | some (.row _ t' ys w) => match v == w with
      | true => if h : t' = t then some ([(id, 0)], h ▸ ys) else none
      | false => none
    | _ => none
  | _ => none
/-- The element's type of a row that has been handed on: it grows no more. -/
def fz : Nat := 4294967295
/-- Behind a row that is read alone from then on, and has nothing yet. -/
def evAppendZ (T : TypeId → Option TyI) (m : Key → Option AV) (id w t : Nat) (tt : TypeId) (nx : Bool) (y : AV) : Option OpR :=
  match T tt, evNews m t y with
  | some d, some (ks, ys) => match d.desc with
    | .slice e' => match T e' with
      | some de => match (!(e' == fz)) && ((de.size == datSize t) && ((widthC de.zero == datSize t) && Nat.blt 0 (datSize t))) with
        | true => some ⟨[nx, decide (ys.length ≤ 134217728)], .gs id (w + 1), (id, 0) :: ks, [((id, 0), .row e' t ys (w + 1))], []⟩
        | false => none
      | none => none
    | _ => none
  | _, _ => none
def evAppend (T : TypeId → Option TyI) (m : Key → Option AV) : List TypeId → List AV → Option OpR
  | [tt, tt'], [.gs id v, y] => match m (id, 0) with
    | some (.row e t xs w) => match e == fz with
      | true => match (v == w) && (tt == tt') with
        | true => evAppendZ T m id w t tt (decide (xs.length = 0)) y
        | false => none
      | false => match (v == w) && ((tt == tt') && !(e == fz)), T tt, T e, evNews m t y with
        | true, some d, some de, some (ks, ys) => match d.desc with
          | .slice e' => match (e' == e) && ((de.size == datSize t) && ((widthC de.zero == datSize t) && Nat.blt 0 (datSize t))) with
            | true => some ⟨[decide (xs.length + ys.length ≤ 134217728)], .gs id (v + 1), (id, 0) :: ks, [((id, 0), .row e t (xs ++ ys) (v + 1))], []⟩
            | false => none
          | _ => none
        | _, _, _, _ => none
    | _ => none
  | _, _ => none
/-- Questions about one's own rows. -/
def evOwnLen (T : TypeId → Option TyI) (m : Key → Option AV) : List TypeId → List AV → Option OpR
  | t :: _, [.gs id v] => match T t, m (id, 0) with
    | some d, some (.row _ _ xs w) => match d.desc, v == w with
      | .slice _, true => some ⟨[], .i .i64 (xs.length : Int), [(id, 0)], [], []⟩
      | _, _ => none
    | _, _ => none
  | _, _ => none
def evOwnBuiltin (T : TypeId → Option TyI) (m : Key → Option AV) (b : Builtin) (ts : List TypeId) (vs : List AV) : Option OpR :=
  match b with
  | .append => evAppend T m ts vs
  | .len => evOwnLen T m ts vs
  | _ => none
/-- A part of a row of one's own, which is read alone from then on. -/
def bareO : Option AV → Bool
  | none => true
  | some a => bareS a
def evOwnSlice (T : TypeId → Option TyI) (m : Key → Option AV) (t : TypeId) (lo hi : Option AV) : AV → Option OpR
  | .gs id v => match m (id, 0) with
    | some (.row _ k xs w) => match (v == w && Nat.blt id big) && (bareO lo && bareO hi), evSlice T t (.vw k xs) lo hi with
      | true, some r => some ⟨r.pre, r.v, [(id, 0)], [((id, 0), .row fz k xs w)], []⟩
      | _, _ => none
    | _ => none
  | _ => none
def evOwnAddr (T : TypeId → Option TyI) (tt : TypeId) (m : Key → Option AV) (x ix : AV) : Option OpR :=
  match x, ixI ix, T tt with
  | .gs id v, some i, some d => match m (id, 0), d.desc with
    | some (.row _ t xs w), .slice e => match T e with
      | some de => match (v == w) && (de.size == datSize t) with
        | true => some ⟨[decide (0 ≤ i), decide (i < (xs.length : Int))], .pg id v (datSize t) i.toNat 0, [(id, 0)], [], []⟩
        | false => none
      | none => none
    | _, _ => none
  | _, _, _ => none
def evOwnLoad (T : TypeId → Option TyI) (m : Key → Option AV) (t : TypeId) : AV → Option OpR
  | .pg id v sz i off => match m (id, 0), T t with
    | some (.row _ k xs w), some d => match (v == w) && (sz == datSize k), partC d (encAt k xs i) off with
      | true, some r => some ⟨[], r, [(id, 0)], [], []⟩
      | _, _ => none
    | _, _ => none
  | _ => none
/-- A slice that nobody has laid yet: a row of one's own. -/
def evBirth (T : TypeId → Option TyI) (ids : List (Nat × Nat)) (m : Key → Option AV) (dst : Option Nat) (t : TypeId) : Option OpR :=
  match T t, dst with
  | some d, some id => match d.desc with
    | .slice e => match T e with
      | some de => match kindZ de.zero, sizeIn ids id with
        | some k, none => some ⟨[], .gs id 0, [], [((id, 0), .row e k [] 0)], [(id, 0)]⟩
        | some k, some _ => match m (id, 0) with
          | some (.row _ _ _ w) => some ⟨[], .gs id (w + 1), [(id, 0)], [((id, 0), .row e k [] (w + 1))], []⟩
          | _ => some ⟨[], .nils, [(id, 0)], [], []⟩
        | _, _ => none
      | none => none
    | _ => none
  | _, _ => none

def lookAll (E : Operand → Option AV) : List Operand → Option (List AV)
  | [] => some []
  | x :: xs => match E x, lookAll E xs with
    | some v, some vs => some (v :: vs)
    | _, _ => none

def lookParts (E : Operand → Option AV) : List (Nat × Operand) → Option (List (Nat × AV))
  | [] => some []
  | (i, x) :: xs => match E x, lookParts E xs with
    | some v, some vs => some ((i, v) :: vs)
    | _, _ => none

def nodupD : List Nat → Bool
  | [] => true
  | x :: l => !(l.contains x) && nodupD l

/-- Which of one's own objects are handed over, with their cells. -/
def ownArgs (ids : List (Nat × Nat)) (m : Key → Option AV) : List AV → Option (List (Nat × Nat × List AV))
  | [] => some []
  | .ptr id off :: as => match off, sizeIn ids id with
    | 0, some n => match ids.all (fun x => !(x.1 == id) || x.2 == n), readC m id n 0 n, ownArgs ids m as with
      | true, some l, some r => match l.all bare1 with
        | true => some ((id, n, l) :: r)
        | false => none
      | _, _, _ => none
    | _, _ => none
  | a :: as => match bareV a with
    | true => ownArgs ids m as
    | false => none
/-- read alone -/
def roArgs : List AV → List (Nat × Nat × List AV) → List AV
  | .ptr _ _ :: as, (_, _, l) :: os => .rp l 0 :: roArgs as os
  | a :: as, os => a :: roArgs as os
  | [], _ => []
/-- to be changed -/
def rwArgs : List AV → List (Nat × Nat × List AV) → List AV
  | .ptr _ _ :: as, (_, _, l) :: os => .obj l :: rwArgs as os
  | a :: as, os => a :: rwArgs as os
  | [], _ => []
/-- what stands in the objects behind the call -/
def outKeys : List (Nat × Nat × List AV) → List (List AV) → Option (List (Key × AV))
  | [], [] => some []
  | (id, _, l) :: os, c :: cs => match (l.map AV.width == c.map AV.width) && c.all bare1, outKeys os cs with
    | true, some r => some (keysAcc id 0 c r)
    | _, _ => none
  | _, _ => none
def rdKeys (os : List (Nat × Nat × List AV)) : List Key := os.flatMap fun x => keysFrom x.1 0 x.2.1

def evCall (S : FuncId → CSpec) (ids : List (Nat × Nat)) (m : Key → Option AV) (dst : Option Nat) (f : FuncId) (vs : List AV) : Option OpR :=
  match Nat.blt f 1000000 with
  | false => none
  | true => match ownArgs ids m vs with
    | some [] => match S f vs with
      | some r => match r.outs with
        | [] => some ⟨r.pre, r.res, [], [], []⟩
        | _ :: _ => none
      | none => match S (2000000 + f) vs, dst with
        | some r, some d => match r.res, sizeIn ids d with
          | .obj l, none => match l.all bare1 with
            | true => some ⟨r.pre, .ptr d 0, [], keysAcc d 0 l [], [(d, widthC l)]⟩
            | false => none
          | _, _ => none
        | _, _ => none
    | some os => match S f (roArgs vs os) with
      | some r => match r.outs, r.res.flatR with
        | [], true => some ⟨r.pre, r.res, rdKeys os, [], []⟩
        | _, _ => none
      | none => match S (1000000 + f) (rwArgs vs os), nodupD (os.map (·.1)) && os.all (fun x => Nat.blt 0 x.2.1) with
        | some r, true => match outKeys os r.outs with
          | some wr => some ⟨r.pre, r.val, rdKeys os, wr, []⟩
          | none => none
        | _, _ => none
    | none => none

/-- Does it stand for a row of one's own, or lead into one? -/
def isGs : AV → Bool
  | .gs _ _ => true
  | _ => false
def isPg : AV → Bool
  | .pg _ _ _ _ _ => true
  | _ => false
/-- Rows of one's own that are handed over to be read. -/
def frzArgs (m : Key → Option AV) : List AV → Option (List AV × List (Nat × AV))
  | [] => some ([], [])
  | a :: as => match frzArgs m as with
    | some (bs, gs) => match a with
      | .gs id v => match m (id, 0) with
        | some (.row _ t xs w) => match v == w with
          | true => some (.vw t xs :: bs, (id, .row fz t xs w) :: gs)
          | false => none
        | _ => none
      | a => match bareV a with
        | true => some (a :: bs, gs)
        | false => none
    | none => none
def evCallR (S : FuncId → CSpec) (m : Key → Option AV) (f : FuncId) (vs : List AV) : Option OpR :=
  match Nat.blt f 1000000, frzArgs m vs with
  | true, some (bs, gs) => match S f bs with
    | some r => match r.outs, r.res.flatR with
      | [], true => some ⟨r.pre, r.res, gs.map fun x => (x.1, 0), [], []⟩
      | [], false => match gs.all (fun x => Nat.blt x.1 big) with
        | true => some ⟨r.pre, r.res, gs.map fun x => (x.1, 0), gs.map fun x => ((x.1, 0), x.2), []⟩
        | false => none
      | _, _ => none
    | none => none
  | _, _ => none

/-! What is handed over with all that it leads to -/
def isFrag : AV → Bool
  | .obj _ => true
  | .row _ _ _ _ => true
  | _ => false
/-- What stands under a number: a row, or an object's cells. -/
def contOf (ids : List (Nat × Nat)) (m : Key → Option AV) (id : Nat) : Option AV :=
  match m (id, 0) with
  | some (.row e t xs ver) => match e == fz with
    | true => none
    | false => some (.row e t xs ver)
  | _ => match sizeIn ids id with
    | some n => match ids.all (fun x => !(x.1 == id) || x.2 == n) && Nat.blt 0 n, readC m id n 0 n with
      | true, some l => match widthC l == n with
        | true => some (.obj l)
        | false => none
      | _, _ => none
    | none => none
def leadP1 : AV → List Nat
  | .ptr id _ => [id]
  | _ => []
/-- Where an argument leads, by pointers. -/
def leadP : AV → List Nat
  | .ptr id _ => [id]
  | .agg l => l.flatMap leadP1
  | _ => []
def lead1 : AV → List Nat
  | .ptr id _ => [id]
  | .gs id _ => [id]
  | _ => []
def leadC : AV → List Nat
  | .obj l => l.flatMap lead1
  | _ => []
/-- All that is reached, each once, in the order in which it is found. -/
def reach (ids : List (Nat × Nat)) (m : Key → Option AV) : Nat → List Nat → List (Nat × AV) → Option (List (Nat × AV))
  | 0, _, _ => none
  | _ + 1, [], acc => some acc
  | n + 1, id :: rest, acc => match acc.any (fun x => x.1 == id) with
    | true => reach ids m n rest acc
    | false => match contOf ids m id with
      | some c => reach ids m n (rest ++ leadC c) (acc ++ [(id, c)])
      | none => none
def posOf : List (Nat × AV) → Nat → Option Nat
  | [], _ => none
  | x :: l, id => match x.1 == id with
    | true => some 0
    | false => match posOf l id with
      | some k => some (k + 1)
      | none => none
/-- By the numbers of the one that is called. -/
def ren1 (σ : List (Nat × AV)) : AV → Option AV
  | .ptr id off => match posOf σ id with
    | some k => some (.ptr (big + k) off)
    | none => none
  | .gs id v => match posOf σ id with
    | some k => match σ[k]? with
      | some (_, .row _ _ _ w) => match v == w with
        | true => some (.gs (big + k) 0)
        | false => none
      | _ => none
    | none => none
  | a => match bare1 a with
    | true => some a
    | false => none
def renL (σ : List (Nat × AV)) : List AV → Option (List AV)
  | [] => some []
  | a :: l => match ren1 σ a, renL σ l with
    | some b, some r => some (b :: r)
    | _, _ => none
/-- of arguments -/
def renA (σ : List (Nat × AV)) : AV → Option AV
  | .agg l => match renL σ l with
    | some r => some (.agg r)
    | none => none
  | a => ren1 σ a
def renAs (σ : List (Nat × AV)) : List AV → Option (List AV)
  | [] => some []
  | a :: l => match renA σ a, renAs σ l with
    | some b, some r => some (b :: r)
    | _, _ => none
/-- of what stands there -/
def renC (σ : List (Nat × AV)) : AV → Option AV
  | .obj l => match renL σ l with
    | some r => some (.obj r)
    | none => none
  | .row e t xs _ => some (.row e t xs 0)
  | _ => none
def renCs (σ : List (Nat × AV)) : List (Nat × AV) → Option (List AV)
  | [] => some []
  | x :: l => match renC σ x.2, renCs σ l with
    | some b, some r => some (b :: r)
    | _, _ => none
/-- The memory, and the numbers, that one starts with. -/
def fragMem : Nat → List AV → List (Key × AV)
  | _, [] => []
  | k, .obj l :: r => keysAcc k 0 l (fragMem (k + 1) r)
  | k, .row e t xs v :: r => ((k, 0), .row e t xs v) :: fragMem (k + 1) r
  | k, _ :: r => fragMem (k + 1) r
def fragIds : Nat → List AV → List (Nat × Nat)
  | _, [] => []
  | k, .obj l :: r => (k, widthC l) :: fragIds (k + 1) r
  | k, _ :: r => (k, 0) :: fragIds (k + 1) r
/-- As it is handed back: the newest headers by nought. -/
def fragLive : Nat → List AV → List Key
  | _, [] => []
  | k, .obj l :: r => keysFrom k 0 (widthC l) ++ fragLive (k + 1) r
  | k, _ :: r => (k, 0) :: fragLive (k + 1) r
def fragOut (m : Key → Option AV) : Nat → List AV → Option (List (List AV))
  | _, [] => some []
  | k, .obj l :: r => match readC m k (widthC l) 0 (widthC l), fragOut m (k + 1) r with
    | some d, some o => match (l.map AV.width == d.map AV.width) && Nat.blt 0 (widthC l) with
      | true => some (d :: o)
      | false => none
    | _, _ => none
  | k, .row e t _ _ :: r => match m (k, 0), fragOut m (k + 1) r with
    | some (.row e' t' xs v), some o => match (e' == e) && (t' == t) with
      | true => some ([.row e' t' xs v] :: o)
      | false => none
    | _, _ => none
  | _, _ => none
/-- Rows of one's own among the arguments: read alone, from then on. -/
def frzL (m : Key → Option AV) : List AV → Option (List AV × List (Nat × AV))
  | [] => some ([], [])
  | a :: l => match frzL m l with
    | some (bs, gs) => match a with
      | .gs id v => match m (id, 0) with
        | some (.row _ t xs w) => match v == w && Nat.blt id big with
          | true => some (.vw t xs :: bs, (id, .row fz t xs w) :: gs)
          | false => none
        | _ => none
      | a => some (a :: bs, gs)
    | none => none
def frzA (m : Key → Option AV) : List AV → Option (List AV × List (Nat × AV))
  | [] => some ([], [])
  | a :: l => match frzA m l with
    | some (bs, gs) => match a with
      | .agg cs => match frzL m cs with
        | some (ds, hs) => some (.agg ds :: bs, hs ++ gs)
        | none => none
      | a => match frzL m [a] with
        | some ([d], hs) => some (d :: bs, hs ++ gs)
        | _ => none
    | none => none
/-- Back by the numbers of the one that calls. -/
def back1 (σ : List (Nat × AV)) : AV → Option AV
  | .ptr i off => match Nat.ble big i, σ[i - big]? with
    | true, some (id, .obj _) => some (.ptr id off)
    | _, _ => none
  | .gs i v => match Nat.ble big i, σ[i - big]? with
    | true, some (id, .row _ _ _ w) => match v == 0 with
      | true => some (.gs id (w + 1))
      | false => none
    | _, _ => none
  | a => match bare1 a with
    | true => some a
    | false => none
def backL (σ : List (Nat × AV)) : List AV → Option (List AV)
  | [] => some []
  | a :: l => match back1 σ a, backL σ l with
    | some b, some r => some (b :: r)
    | _, _ => none
/-- What is written, behind the call. -/
def backW (σ : List (Nat × AV)) : List (Nat × AV) → List (List AV) → Option (List (Key × AV))
  | [], [] => some []
  | (id, .obj l) :: r, c :: cs => match backL σ c, backW σ r cs with
    | some d, some ws => match l.map AV.width == d.map AV.width with
      | true => some (keysAcc id 0 d ws)
      | false => none
    | _, _ => none
  | (id, .row e t _ w) :: r, [.row e' t' xs _] :: cs => match backW σ r cs, (e' == e) && (t' == t) with
    | some ws, true => some (((id, 0), .row e' t' xs (w + 1)) :: ws)
    | _, _ => none
  | _, _ => none
def reachKeys : List (Nat × AV) → List Key
  | [] => []
  | (id, .obj l) :: r => (id, 0) :: keysFrom id 0 (widthC l) ++ reachKeys r
  | (id, _) :: r => (id, 0) :: reachKeys r
def evCallM (S : FuncId → CSpec) (ids : List (Nat × Nat)) (m : Key → Option AV) (f : FuncId) (vs : List AV) : Option OpR :=
  match Nat.blt f 1000000, frzA m vs with
  | true, some (bs, gs) => match reach ids m 64 (bs.flatMap leadP) [] with
    | some σ => match gs.all (fun x => !(σ.any fun y => y.1 == x.1)), renAs σ bs, renCs σ σ with
      | true, some as, some fr => match S (3000000 + f) (as ++ fr) with
        | some r => match backW σ σ r.outs, bareR r.val with
          | some wr, true => some ⟨r.pre, r.val, reachKeys σ ++ gs.map (fun x => (x.1, 0)), wr ++ gs.map (fun x => ((x.1, 0), x.2)), []⟩
          | _, _ => none
        | none => none
      | _, _, _ => none
    | none => none
  | _, _ => none

/-! Rows that are born with an object -/
abbrev subN : Nat := 1048576
/-- Where an object of a type has slices whose elements are known: offset, type and kind of the elements. -/
def sliceOff (T : TypeId → Option TyI) : Nat → TypeId → Nat → List (Nat × Nat × Nat)
  | 0, _, _ => []
  | n + 1, t, off => match T t with
    | some d => match d.desc with
      | .slice e => match T e with
        | some de => match kindZ de.zero with
          | some k => [(off, e, k)]
          | none => []
        | none => []
      | .struct fs => fs.flatMap fun f => sliceOff T n f.2 (off + f.1)
      | _ => []
    | none => []
/-- The number of such a row. -/
def ridOf (s id off : Nat) : Nat := id + s * (off + 1)
/-- Rows that begin again: a nil slice stored over a field whose row has its place. -/
def againAll (m : Key → Option AV) (id : Nat) (g : Nat → Nat) : List (Nat × Nat × Nat) → List (Key × AV) → List (Key × AV) × List Key
  | [], base => (base, [])
  | (off, e, k) :: r, base => match look (againAll m id g r base).1 (id, off) with
    | some .nils => match look (againAll m id g r base).1 (g off, 0), m (g off, 0) with
      | none, some (.row _ _ _ w) => (((id, off), .gs (g off) (w + 1)) :: ((g off, 0), .row e k [] (w + 1)) :: (againAll m id g r base).1, (g off, 0) :: (againAll m id g r base).2)
      | _, _ => ((againAll m id g r base).1, (g off, 0) :: (againAll m id g r base).2)
    | _ => againAll m id g r base
def again (T : TypeId → Option TyI) (m : Key → Option AV) (t : TypeId) (p : AV) (r : OpR) : OpR := match p with
  | .ptr id off => ⟨r.pre, r.v, (againAll m id (ridOf subN id) (sliceOff T 4 t off) r.wr).2 ++ r.rd, (againAll m id (ridOf subN id) (sliceOff T 4 t off) r.wr).1, r.al⟩
  | _ => r
def bornAll (ids : List (Nat × Nat)) (id : Nat) (g : Nat → Nat) : List (Nat × Nat × Nat) → List (Key × AV) → List (Key × AV) × List (Nat × Nat)
  | [], base => (base, [])
  | (off, e, k) :: r, base => match look (bornAll ids id g r base).1 (id, off), sizeIn ids (g off), (bornAll ids id g r base).2.any (fun x => x.1 == g off) with
    | some .nils, none, false => (((id, off), .gs (g off) 0) :: ((g off, 0), .row e k [] 0) :: (bornAll ids id g r base).1, (g off, 0) :: (bornAll ids id g r base).2)
    | _, _, _ => bornAll ids id g r base

/-! Closures -/
def isClo : AV → Bool
  | .clo _ _ => true
  | _ => false
/-- What is captured, to be read alone during a call. -/
def capRo (ids : List (Nat × Nat)) (m : Key → Option AV) : List AV → Option (List AV × List Key)
  | [] => some ([], [])
  | a :: l => match capRo ids m l with
    | some (bs, ks) => match a with
      | .ptr id off => match contOf ids m id with
        | some (.obj c) => match c.all bareS with
          | true => some (.rp c off :: bs, (id, 0) :: keysFrom id 0 (widthC c) ++ ks)
          | false => none
        | _ => none
      | a => match bareS a with
        | true => some (a :: bs, ks)
        | false => none
    | none => none
def cloArgs (ids : List (Nat × Nat)) (m : Key → Option AV) : List AV → Option (List AV × List Key)
  | [] => some ([], [])
  | a :: l => match cloArgs ids m l with
    | some (bs, ks) => match a with
      | .clo f caps => match capRo ids m caps with
        | some (cs, hs) => some (.clo f cs :: bs, hs ++ ks)
        | none => none
      | a => match bareV a with
        | true => some (a :: bs, ks)
        | false => none
    | none => none
/-- A call that is handed closures. -/
def evCallK (S : FuncId → CSpec) (ids : List (Nat × Nat)) (m : Key → Option AV) (f : FuncId) (vs : List AV) : Option OpR :=
  match Nat.blt f 1000000, cloArgs ids m vs with
  | true, some (as, ks) => match S f as with
    | some r => match r.outs, r.res.flatR with
      | [], true => some ⟨r.pre, r.res, ks, [], []⟩
      | _, _ => none
    | none => none
  | _, _ => none
/-- What a closure makes of arguments. -/
def evCloCall (S : FuncId → CSpec) (caps vs : List AV) (f : FuncId) : Option OpR :=
  match Nat.blt f 1000000 && (vs.all bareV && caps.all bareS) with
  | true => match S f (vs ++ caps) with
    | some r => match r.outs with
      | [] => some ⟨r.pre, r.res, [], [], []⟩
      | _ => none
    | none => none
  | false => none

/-- An operand that may be lacking. -/
def lookOpt (E : Operand → Option AV) : Option Operand → Option (Option AV)
  | none => some none
  | some x => match E x with
    | some v => some (some v)
    | none => none

def slotOf : Operand → Option Nat
  | .tmp t => some t
  | _ => none

def ownB (b : Builtin) (vs : List AV) : Bool := match b with
  | .append => true
  | .len => vs.any isGs
  | _ => false
/-- nil, as a slice -/
def isNilC : Operand → Bool
  | .const (.slice none 0 0) => true
  | _ => false
/-- Is anything said of what a function makes of all that it is led to? -/
def hasM (S : FuncId → CSpec) (f : FuncId) : Bool := match S (3000000 + f) [.dead] with
  | some _ => true
  | none => false
def mSpec (s : CSpec) : CSpec := fun xs => match xs with
  | [.dead] => some ⟨[], .b true⟩
  | xs => s xs
/-- One operation. 'E': an operand's value, 'Ep': under a pick's branch. -/
def evOp (T : TypeId → Option TyI) (S : FuncId → CSpec) (ids : List (Nat × Nat)) (E : Operand → Option AV) (Ep : Bool → Operand → Operand → Option AV)
    (m : Key → Option AV) (o : Oper) : Option OpR :=
  match o.op with
  | .move x => match E x with
    | some v => val v
    | none => none
  | .assign x => match isNilC x, evBirth T ids m o.dst o.type with
    | true, some r => some r
    | _, _ => match E x with
      | some v => val v
      | none => none
  | .pick c a b => match E c, Ep true c a, Ep false c b with
    | some (.b x), some va, some vb => val (merge x va vb)
    | _, _, _ => none
  | .binOp op t x y _ => match E x, E y with
    | some a, some b => match evBin T op t a b with
      | some (c, v) => valN c v
      | none => none
    | _, _ => none
  | .unOp op _ x => match E x with
    | some a => match evUn op a with
      | some v => val v
      | none => none
    | none => none
  | .convert s d x => match T d, T s, E x with
    | some i, some _, some a => match evConv i.desc a with
      | some v => val v
      | none => none
    | _, _, _ => none
  | .nilCheck x => match E x with
    | some (.ptr id off) => val (.ptr id off)
    | some (.rp l off) => val (.rp l off)
    | _ => none
  | .load t x => match E x with
    | some p => match isPg p with
      | true => evOwnLoad T m t p
      | false => evLoad T m t p
    | none => none
  | .store t x y => match E x, E y with
    | some p, some v => match evStore T m t p v with
      | some r => some (again T m t p r)
      | none => none
    | _, _ => none
  | .fieldAddr t x f => match E x with
    | some p => evFieldAddr T t p f
    | none => none
  | .field t x f => match E x with
    | some p => evField T t p f
    | none => none
  | .indexAddr t x ix => match E x, E ix with
    | some p, some j => match isGs p with
      | true => evOwnAddr T t m p j
      | false => evIndexAddr T t p j
    | _, _ => none
  | .index t x ix => match E x, E ix with
    | some p, some j => evIndex T t p j
    | _, _ => none
  | .extract x ix => match E x with
    | some (.tup vs) => match vs[ix]? with
      | some v => val v
      | none => none
    | _ => none
  | .build t parts => match lookParts E parts.toList with
    | some ps => evBuild T t ps
    | none => none
  | .alloc t => match T t, o.dst with
    | some d, some id => match sizeIn ids id with
      | none => some ⟨[], .ptr id 0, [], (bornAll ids id (ridOf subN id) (sliceOff T 4 t 0) (keysAcc id 0 d.zero [])).1, (id, widthC d.zero) :: (bornAll ids id (ridOf subN id) (sliceOff T 4 t 0) (keysAcc id 0 d.zero [])).2⟩
      | some _ => none
    | _, _ => none
  | .box t x => match E x, o.dst with
    | some v, some id => match sizeIn ids id, v.cellable with
      | none, true => some ⟨[], .ptr id 0, [], (bornAll ids id (ridOf subN id) (sliceOff T 4 t 0) (keysAcc id 0 v.cells [])).1, (id, widthC v.cells) :: (bornAll ids id (ridOf subN id) (sliceOff T 4 t 0) (keysAcc id 0 v.cells [])).2⟩
      | _, _ => none
    | _, _ => none
  | .call c => match lookAll E c.args.toList with
    | some vs => match c.callee with
      | .value (.func f) => match hasM S f with
        | true => evCallM S ids m f vs
        | false => match vs.any isClo with
          | true => evCallK S ids m f vs
          | false => match vs.any isGs with
            | true => evCallR S m f vs
            | false => evCall S ids m o.dst f vs
      | .value x => match E x with
        | some (.clo f caps) => evCloCall S caps vs f
        | _ => none
      | .builtin b => match ownB b vs with
        | true => evOwnBuiltin T m b c.argTypes.toList vs
        | false => evBuiltin T b c.argTypes.toList vs
      | _ => none
    | none => none
  | .buildSlice t n parts => match lookParts E parts.toList with
    | some ps => match ps.any (fun p => isPtr p.2) with
      | true => evBuildPtrs T ids o.dst t n ps
      | false => match evBuildSlice T t n ps with
        | some r => some (packR T t r)
        | none => none
    | none => none
  | .range t x => match T t, E x, o.dst with
    | some d, some (.str s), some id => match d.desc, sizeIn ids id with
      | .string, none => some ⟨[], .ptr id 0, [], [((id, 0), .sit s 0)], [(id, 0)]⟩
      | _, _ => none
    | _, _, _ => none
  | .next x str => match E x, str with
    | some (.ptr id 0), true => match m (id, 0) with
      | some (.sit s pos) => match s[pos]? with
        | some c => match Nat.blt c.toNat 128 with
          | true => some ⟨[], .tup [.b true, .i .i64 (pos : Int), .i .i32 (c.toNat : Int)], [(id, 0)], [((id, 0), .sit s (pos + 1))], []⟩
          | false => none
        | none => some ⟨[], .tup [.b false], [(id, 0)], [], []⟩
      | _ => none
    | _, _ => none
  | .makeFunc fn first captured => match fn, first.toList, lookAll E captured.toList with
    | .func f, [], some vs => val (.clo f vs)
    | _, _, _ => none
  | .slice t x lo hi mx => match mx with
    | none => match E x, lookOpt E lo, lookOpt E hi with
      | some v, some l, some h => match isGs v with
        | true => evOwnSlice T m t l h v
        | false => evSlice T t v l h
      | _, _, _ => none
    | some _ => none
  | _ => none

/-! ### Regions -/
/-- A guarded value's tests: which operation's Bool, and which way. -/
abbrev Chain := List (Nat × Bool)

structure RS where
  base : List (Nat × AV)
  vals : List (Nat × Chain × AV)
  mem : List (Key × AV)
  ids : List (Nat × Nat)
  needs : List Bool
  log : List (List Key × List Key)

def dstAt (ops : List Oper) (j : Nat) : Option Nat := match ops[j]? with
  | some o => o.dst
  | none => none

def lookG : List (Nat × Chain × AV) → Nat → Option (Chain × AV)
  | [], _ => none
  | (k, g, v) :: l, x => match k == x with
    | true => some (g, v)
    | false => lookG l x

def subC (c ctx : Chain) : Bool := c.all ctx.contains

def evOpd (rs : RS) (ctx : Chain) : Operand → Option AV
  | .tmp t => match lookG rs.vals t with
    | some (g, v) => match subC g ctx with
      | true => some v
      | false => none
    | none => look rs.base t
  | .const v => some (ofVal v)
  | .func f => some (.clo f [])
  | _ => none

def posDst (ops : List Oper) (t : Nat) : Nat → Option Nat
  | 0 => none
  | n + 1 => match dstAt ops n == some t with
    | true => some n
    | false => posDst ops t n

/-- Under which tests an operation stands. -/
def ctxOf (rs : RS) (ops : List Oper) (i : Nat) : Option (Nat × Bool) → Option Chain
  | none => some []
  | some (j, p) => match Nat.blt j i, dstAt ops j with
    | true, some d => match lookG rs.vals d with
      | some (c, .b _) => some ((j, p) :: c)
      | _ => none
    | _, _ => none

/-- The tests, as Bools. -/
def guardB (rs : RS) (ops : List Oper) : Chain → Option (List Bool)
  | [] => some []
  | (j, p) :: l =>
    match dstAt ops j, guardB rs ops l with
    | some d, some bs => match lookG rs.vals d with
      | some (_, .b x) => some ((match p with | true => x | false => !x) :: bs)
      | _ => none
    | _, _ => none

def impl : List Bool → Bool → Bool
  | [], c => c
  | g :: gs, c => if g = true then impl gs c else true

/-- An operand under a pick's branch. -/
def pickOpd (rs : RS) (ops : List Oper) (i : Nat) (ctx : Chain) (p : Bool) (c x : Operand) : Option AV :=
  match c with
  | .tmp t => match posDst ops t i with
    | some j => evOpd rs ((j, p) :: ctx) x
    | none => evOpd rs ctx x
  | _ => evOpd rs ctx x

/-- A call that is led to nothing that it could change. -/
def quietM (S : FuncId → CSpec) (m : Key → Option AV) (E : Operand → Option AV) (o : Oper) : Bool := match o.op with
  | .call c => match lookAll E c.args.toList, c.callee with
    | some vs, .value (.func f) => hasM S f && (match frzA m vs with
      | some (bs, _) => (bs.flatMap leadP).isEmpty
      | none => false)
    | _, _ => false
  | _ => false
def evStep (T : TypeId → Option TyI) (S : FuncId → CSpec) (ops : List Oper) (i : Nat) (o : Oper) (rs : RS) : Option RS :=
  match ctxOf rs ops i o.guard with
  | none => none
  | some ctx =>
    match evOp T S rs.ids (evOpd rs ctx) (pickOpd rs ops i ctx) (look rs.mem) o with
    | none => none
    | some r =>
      match o.guard with
      | none => some ⟨rs.base, match o.dst with
          | some d => (d, [], r.v) :: rs.vals
          | none => rs.vals, r.wr ++ rs.mem, r.al ++ rs.ids, r.pre ++ rs.needs, (r.rd, r.wr.map (·.1)) :: rs.log⟩
      | some _ =>
        match r.wr.isEmpty || quietM S (look rs.mem) (evOpd rs ctx) o, r.al, o.dst, guardB rs ops ctx with
        | true, [], some d, some bs =>
          some ⟨rs.base, (d, ctx, r.v) :: rs.vals, r.wr ++ rs.mem, rs.ids, r.pre.map (impl bs) ++ rs.needs, (r.rd, r.wr.map (·.1)) :: rs.log⟩
        | _, _, _, _ => none

def evOps (T : TypeId → Option TyI) (S : FuncId → CSpec) (ops : List Oper) : Nat → List Oper → RS → Option RS
  | _, [], rs => some rs
  | i, o :: rest, rs => match evStep T S ops i o rs with
    | some rs' => evOps T S ops (i + 1) rest rs'
    | none => none

/-- The slots behind a region. -/
def finEnv (base : List (Nat × AV)) : List (Nat × Chain × AV) → List (Nat × AV)
  | [] => base
  | (d, g, v) :: l => (d, match g with | [] => v | _ :: _ => .poison) :: finEnv base l

/-! What may come in either order. -/
def waits (o : Oper) (i : Nat) : Bool := o.after.toList.any fun e => e.on == i && Region.binds .any e

def opSlots (o : Oper) : List Nat := o.op.operands.toList.filterMap slotOf

/-- One operation against another one that stands behind it in the text. -/
def pairOk (i : Nat) (o o' : Oper) (l l' : List Key × List Key) : Bool :=
  waits o' i ||
    ((match o.dst with | some d => !(opSlots o').contains d | none => true) &&
     (match o'.dst with | some d => !(opSlots o).contains d | none => true) &&
     l.2.all (fun k => !l'.1.contains k && !l'.2.contains k) && l.1.all (fun k => !l'.2.contains k))

def pairsOk (i : Nat) (o : Oper) (l : List Key × List Key) : List Oper → List (List Key × List Key) → Bool
  | o' :: os, l' :: ls => pairOk i o o' l l' && pairsOk i o l os ls
  | [], [] => true
  | _, _ => false

def allPairs : Nat → List Oper → List (List Key × List Key) → Bool
  | i, o :: os, l :: ls => pairsOk i o l os ls && allPairs (i + 1) os ls
  | _, [], [] => true
  | _, _, _ => false

def backEdges : Nat → List Oper → Bool
  | _, [] => true
  | i, o :: os => o.after.toList.all (fun e => !(Region.binds .any e) || Nat.blt e.on i) && (match o.guard with | some (j, _) => waits o j | none => true) && backEdges (i + 1) os

def okRegion (draw : Bool) (n : Nat) (ops : List Oper) (log : List (List Key × List Key)) : Bool :=
  nodupD (ops.filterMap (·.dst)) && (ops.filterMap (·.dst)).all (fun d => Nat.blt d n && Nat.blt d subN) &&
    (match draw with
     | false => true
     | true => backEdges 0 ops && allPairs 0 ops log.reverse && Region.noSelect ops.toArray)

/-! ### Code -/
inductive Ex where
  | normal | exit (id : Nat) | ret

def dedup {κ : Type} [BEq κ] : List κ → List κ
  | [] => []
  | x :: l => if (dedup l).contains x then dedup l else x :: dedup l

/-- One place of two ways: what is told of it behind them. -/
def mergeL {κ : Type} [BEq κ] (m : AV → AV → AV) (la lb base : List (κ × AV)) : List κ → List (κ × AV)
  | [] => []
  | k :: ks => match look la k, look lb k with
    | some x, some y => (k, m x y) :: mergeL m la lb base ks
    | _, _ => match look base k with
      | some _ => (k, .poison) :: mergeL m la lb base ks
      | none => mergeL m la lb base ks

/-- The newest version of a row. -/
def verAt (M : Key → Option AV) (i : Nat) : Option Nat := match M (i, 0) with
  | some (.row _ _ _ x) => some x
  | _ => none
/-- The newest headers of both ways, by one number. -/
def bumpV (A B : Key → Option AV) : AV → AV
  | .gs i v => match verAt A i, verAt B i with
    | some x, some y => match v == x with
      | true => .gs i (Nat.max x y)
      | false => .gs i v
    | _, _ => .gs i v
  | a => a
/-- Rows of both ways. -/
def mergeSp (c : Bool) : AV → AV → AV
  | .row e t xs v, .row e' t' ys v' => if h : t' = t then if e' = e then .row e t (if c = true then xs else h ▸ ys) (Nat.max v v') else .row (if c = true then e else e') t (if c = true then xs else h ▸ ys) (Nat.max v v') else .dead
  | _, _ => .dead
/-- In memory: of one width alone. -/
def mergeM (c : Bool) (x y : AV) : AV := match x.spec || y.spec with
  | true => mergeSp c x y
  | false => match x.width == y.width with
    | true => merge c x y
    | false => .poison

def delta {κ : Type} (l base : List (κ × AV)) : List κ := (l.take (l.length - base.length)).map (·.1)

def mergeSt (c : Bool) (base a b : St) : St :=
  ⟨mergeL (fun x y => merge c (bumpV (look a.mem) (look b.mem) x) (bumpV (look b.mem) (look a.mem) y)) a.env b.env base.env (dedup (delta a.env base.env ++ delta b.env base.env)) ++ base.env,
   mergeL (fun x y => mergeM c (bumpV (look a.mem) (look b.mem) x) (bumpV (look b.mem) (look a.mem) y)) a.mem b.mem base.mem (dedup (delta a.mem base.mem ++ delta b.mem base.mem)) ++ base.mem, a.ids ++ b.ids, base.cut⟩

/-- Both have only been added to since. -/
def sameCut (base a b : St) : Bool := (a.cut == base.cut) && (b.cut == base.cut)

/-- Two ways, as one where they meet. -/
def joinL (c : Bool) (base : St) (a b : St) : Tr (Ex × St) := match sameCut base a b with
  | true => .leaf (.normal, mergeSt c base a b)
  | false => .ite c (.leaf (.normal, a)) (.leaf (.normal, b))

def joinR (c : Bool) (base : St) (t : Tr (Ex × St)) : Tr (Ex × St) → Tr (Ex × St)
  | .need x u => .need (if c = true then true else x) (joinR c base t u)
  | .leaf (.normal, b) => match t with
    | .leaf (.normal, a) => joinL c base a b
    | t => .ite c t (.leaf (.normal, b))
  | u => .ite c t u

def join (c : Bool) (base : St) : Tr (Ex × St) → Tr (Ex × St) → Tr (Ex × St)
  | .need x t, u => .need (if c = true then x else true) (join c base t u)
  | t, u => joinR c base t u

/-- Does it lead to none but these objects? -/
def keeps1 (ids : List Nat) : AV → Bool
  | .ptr id _ => ids.contains id
  | .px id _ _ _ => ids.contains id
  | .gs id _ => ids.contains id
  | .pg _ _ _ _ _ => false
  | .clo _ l => l.all bareS
  | .osl id _ _ => ids.contains id
  | .agg _ | .tup _ | .obj _ | .fin _ _ => false
  | _ => true
def keeps (ids : List Nat) : AV → Bool
  | .agg l => l.all (keeps1 ids)
  | .tup l => l.all (keeps1 ids)
  | v => keeps1 ids v


/-- What a loop comes to, from its head on. -/
structure LRes where
  pre : List Bool
  e : Ex
  env : List (Nat × AV)
  mem : List (Key × AV)
  ids : List (Nat × Nat)

structure Live where
  slots : List Nat
  keys : List Key
  ids : List Nat
  sum : Option (St → Tr (Ex × St)) := none

/-- A row's newest header, by the number nought. -/
def renum1 (M : Key → Option AV) : AV → AV
  | .gs i v => match verAt M i with
    | some x => match v == x with
      | true => .gs i 0
      | false => .poison
    | none => .poison
  | a => a
def renumV (M : Key → Option AV) : AV → AV
  | .agg l => .agg (l.map (renum1 M))
  | .tup l => .tup (l.map (renum1 M))
  | a => renum1 M a
def renumM (M : Key → Option AV) : AV → AV
  | .row e t xs _ => .row e t xs 0
  | a => renum1 M a
def pickE (ids : List Nat) (M : Key → Option AV) (l : List (Nat × AV)) : List Nat → List (Nat × AV)
  | [] => []
  | k :: ks => match look l k with
    | some v => match keeps ids v with
      | true => (k, renumV M v) :: pickE ids M l ks
      | false => pickE ids M l ks
    | none => pickE ids M l ks

def pickM (ids : List Nat) (M : Key → Option AV) (l : List (Key × AV)) : List Key → List (Key × AV)
  | [] => []
  | k :: ks => match ids.contains k.1 with
    | true => match look l k with
      | some v => match keeps ids v with
        | true => (k, renumM M v) :: pickM ids M l ks
        | false => pickM ids M l ks
      | none => pickM ids M l ks
    | false => pickM ids M l ks

def pickI (ids : List Nat) : List (Nat × Nat) → List (Nat × Nat)
  | [] => []
  | x :: l => match ids.contains x.1 with
    | true => match l.contains x with
      | true => pickI ids l
      | false => x :: pickI ids l
    | false => pickI ids l

def forget (L : Live) (st : St) : St :=
  ⟨pickE L.ids (look st.mem) st.env L.slots, pickM L.ids (look st.mem) st.mem L.keys, pickI L.ids st.ids, 0⟩

/-- One round, from a head to the next, or out. -/
def atHead (f : St → Tr (Ex × St)) (L : Live) (st : St) : Tr (Ex × St) :=
  (f st).bind fun x => .leaf (x.1, forget L x.2)

/-- Out of a loop: nothing before it is told apart any more. -/
def recut (c : Nat) (t : Tr (Ex × St)) : Tr (Ex × St) := t.bind fun x => .leaf (x.1, ⟨x.2.env, x.2.mem, x.2.ids, c⟩)

def iter (g : St → Tr (Ex × St)) : Nat → St → Tr (Ex × St)
  | 0, _ => .fail
  | n + 1, st => (g st).bind fun x => match x with
    | (.normal, st') => iter g n st'
    | (e, st') => .leaf (e, st')

def evSum (q : St → Option LRes) (st : St) : Tr (Ex × St) :=
  match q st with
  | some r => Tr.needs r.pre (.leaf (r.e, ⟨r.env, r.mem, r.ids, 0⟩))
  | none => .fail

/-- The number of the first region of a code. -/
def firstR : Code → Nat
  | .region id _ _ => id
  | .seq a _ => firstR a
  | .cond _ a _ => firstR a
  | .block _ a => firstR a
  | .loop a => firstR a
  | .scope a => firstR a
  | _ => 0

def evCode (T : TypeId → Option TyI) (S : FuncId → CSpec) (L : Nat → Live) (nt N : Nat) : Code → St → Tr (Ex × St)
  | .skip, st => .leaf (.normal, st)
  | .label _, st => .leaf (.normal, st)
  | .ret, st => .leaf (.ret, st)
  | .exit id, st => .leaf (.exit id, st)
  | .seq a b, st => (evCode T S L nt N a st).bind fun x => match x with
    | (.normal, st') => evCode T S L nt N b st'
    | (e, st') => .leaf (e, st')
  | .block id a, st => (evCode T S L nt N a st).bind fun x => match x with
    | (.exit k, st') => match k == id with
      | true => .leaf (.normal, st')
      | false => .leaf (.exit k, st')
    | (e, st') => .leaf (e, st')
  | .scope a, st => evCode T S L nt N a st
  | .cond c a b, st => match c with
    | .tmp t => match look st.env t with
      | some (.b x) => join x st (evCode T S L nt N a st) (evCode T S L nt N b st)
      | _ => .fail
    | _ => .fail
  | .loop a, st => match (L (firstR a)).sum with
    | none => recut (st.cut + 1) (iter (atHead (evCode T S L nt N a) (L (firstR a))) N (forget (L (firstR a)) st))
    | some q => recut (st.cut + 1) (q (forget (L (firstR a)) st))
  | .region _ ops draw, st => match evOps T S ops.toList 0 ops.toList ⟨st.env, [], st.mem, st.ids, [], []⟩ with
    | some rs => match okRegion draw nt ops.toList rs.log with
      | true => Tr.needs rs.needs (.leaf (.normal, ⟨finEnv rs.base rs.vals, rs.mem, rs.ids, st.cut⟩))
      | false => .fail
    | none => .fail
  | _, _ => .fail

/-! ### Functions -/
def argEnv : Nat → List AV → List (Nat × AV)
  | _, [] => []
  | i, v :: l => (i, v) :: argEnv (i + 1) l

/-- A row of one's own, as it is handed back. -/
def ownRow (M : Key → Option AV) : AV → Option AV
  | .gs i v => match M (i, 0) with
    | some (.row _ t xs x) => match v == x && Nat.blt i big with
      | true => some (.vw t xs)
      | false => none
    | _ => none
  | _ => none
def ownL (M : Key → Option AV) : List AV → Option (List AV)
  | [] => some []
  | a :: l => match bare1 a, ownL M l with
    | true, some r => some (a :: r)
    | false, some r => match ownRow M a with
      | some b => some (b :: r)
      | none => none
    | _, none => none
/-- So are structs with rows of one's own inside. -/
def ownRes (M : Key → Option AV) : AV → Option AV
  | .agg l => match ownL M l with
    | some r => some (.agg r)
    | none => none
  | a => ownRow M a
def oneRes (T : TypeId → Option TyI) (st : St) : ResultVar → Option AV
  | .tmp t => match look st.env t with
    | some v => match bareV v with
      | true => some v
      | false => ownRes (look st.mem) v
    | none => none
  | .cell a t => match look st.env a with
    | some p => match evLoad T (look st.mem) t p with
      | some r => match bareV r.v with
        | true => some r.v
        | false => ownRes (look st.mem) r.v
      | none => none
    | none => none

def allRes (T : TypeId → Option TyI) (st : St) : List ResultVar → Option (List AV)
  | [] => some []
  | r :: rs => match oneRes T st r, allRes T st rs with
    | some v, some vs => some (v :: vs)
    | _, _ => none

def resAV : List AV → AV
  | [v] => v
  | vs => .tup vs

def evFn (T : TypeId → Option TyI) (S : FuncId → CSpec) (L : Nat → Live) (N : Nat) (fn : Func) (args : List AV) : Tr AV :=
  match fn.body with
  | none => .fail
  | some c => match Nat.ble args.length fn.ntmps with
   | false => .fail
   | true =>
    (evCode T S L fn.ntmps N c ⟨argEnv 0 args, [], [], 0⟩).bind fun x => match x with
      | (.exit _, _) => .fail
      | (_, st) => match allRes T st fn.results.toList with
        | some vs => .leaf (resAV vs)
        | none => .fail

/-! ### Functions that are handed objects -/
def argEnvO (nt : Nat) : Nat → Nat → List AV → List (Nat × AV)
  | _, _, [] => []
  | i, k, .obj _ :: l => (i, .ptr (nt + k) 0) :: argEnvO nt (i + 1) (k + 1) l
  | i, k, v :: l => (i, v) :: argEnvO nt (i + 1) k l
def objsO : List AV → List (List AV)
  | [] => []
  | .obj c :: l => c :: objsO l
  | _ :: l => objsO l
def objMem (nt : Nat) : Nat → List (List AV) → List (Key × AV)
  | _, [] => []
  | k, c :: l => keysAcc (nt + k) 0 c (objMem nt (k + 1) l)
def objIds (nt : Nat) : Nat → List (List AV) → List (Nat × Nat)
  | _, [] => []
  | k, c :: l => (nt + k, widthC c) :: objIds nt (k + 1) l
/-- What the objects hold in the end. -/
def objOut (st : St) (nt : Nat) : Nat → List (List AV) → Option (List (List AV))
  | _, [] => some []
  | k, c :: l => match readC (look st.mem) (nt + k) (widthC c) 0 (widthC c), Nat.blt 0 (widthC c), objOut st nt (k + 1) l with
    | some d, true, some r => match d.all bare1 with
      | true => some (d :: r)
      | false => none
    | _, _, _ => none
def evFnO (T : TypeId → Option TyI) (S : FuncId → CSpec) (L : Nat → Live) (N : Nat) (fn : Func) (args : List AV) : Tr (AV × List (List AV)) :=
  match fn.body with
  | none => .fail
  | some c => match Nat.ble args.length fn.ntmps with
   | false => .fail
   | true =>
    (evCode T S L fn.ntmps N c ⟨argEnvO fn.ntmps 0 0 args, objMem fn.ntmps 0 (objsO args), objIds fn.ntmps 0 (objsO args), 0⟩).bind fun x => match x with
      | (.exit _, _) => .fail
      | (_, st) => match allRes T st fn.results.toList, objOut st fn.ntmps 0 (objsO args) with
        | some vs, some cs => .leaf (resAV vs, cs)
        | _, _ => .fail

/-- A function that hands back a new object. -/
def evFnP (T : TypeId → Option TyI) (S : FuncId → CSpec) (L : Nat → Live) (N : Nat) (fn : Func) (args : List AV) : Tr AV :=
  match fn.body, fn.results.toList with
  | some c, [.tmp t] => match Nat.ble args.length fn.ntmps with
   | false => .fail
   | true =>
    (evCode T S L fn.ntmps N c ⟨argEnv 0 args, [], [], 0⟩).bind fun x => match x with
      | (.exit _, _) => .fail
      | (_, st) => match look st.env t with
        | some (.ptr id off) => match off, sizeIn st.ids id with
          | 0, some n => match st.ids.all (fun x => !(x.1 == id) || x.2 == n), readC (look st.mem) id n 0 n with
            | true, some l => match l.all bare1 with
              | true => .leaf (.obj l)
              | false => .fail
            | _, _ => .fail
          | _, _ => .fail
        | _ => .fail
  | _, _ => .fail

/-- A function that is handed objects and rows, with all that they lead to. -/
def evFnM (T : TypeId → Option TyI) (S : FuncId → CSpec) (L : Nat → Live) (N : Nat) (fn : Func) (args frag : List AV) : Tr (AV × List (List AV)) :=
  match fn.body with
  | none => .fail
  | some c => match Nat.ble args.length fn.ntmps && Nat.ble fn.ntmps big with
   | false => .fail
   | true =>
    (evCode T S L fn.ntmps N c ⟨argEnv 0 args, fragMem big frag, fragIds big frag, 0⟩).bind fun x => match x with
      | (.exit _, _) => .fail
      | (_, st) => match allRes T st fn.results.toList, fragOut (look (pickM ((fragIds big frag).map (·.1)) (look st.mem) st.mem (fragLive big frag))) big frag with
        | some vs, some cs => .leaf (resAV vs, cs)
        | _, _ => .fail

end Go.Proofs.YtcdnbdphakhilaaGreatDoor.Ev
namespace Go.Proofs.YtcdnbdphakhilaaGreatDoor.Ev

/-- How abstract values stand to a world: where one's own objects lie, which blocks are read alone. -/
structure Ctx where
  w : World
  ρ : Nat → Nat
  dom : Nat → Prop
  R : Nat → Prop
  sz : Nat → Nat
  liv : Nat → Prop
  row : Nat → Prop
  hok : Nat → Nat → Prop
  hd : Nat → Nat → Value

/-- No objects of one's own. -/
def Ctx.bare (C : Ctx) : Ctx := { C with dom := fun _ => False, hok := fun _ _ => False }
/-- What has a block; objects, and rows, those that have no block yet among them. -/
def Ctx.blk (C : Ctx) (i : Nat) : Prop := C.dom i ∨ C.liv i
def Ctx.has (C : Ctx) (i : Nat) : Prop := C.dom i ∨ C.row i

mutual
inductive VR : Ctx → AV → Value → Prop
  | poison {C : Ctx} (v : Value) : VR C .poison v
  | i {C : Ctx} {k : IntKind} {n : Int} (hk : isU k = none) (h : k.has n) : VR C (.i k n) (.int k n)
  | u {C : Ctx} {k : IntKind} {w : Nat} {x : BitVec w} (hk : isU k = some w) : VR C (.u w x) (.int k (x.toNat : Int))
  | b {C : Ctx} (x : Bool) : VR C (.b x) (.bool x)
  | str {C : Ctx} (s : List UInt8) (h : s.length ≤ 9223372036854775807) : VR C (.str s) (.string ⟨s.toArray⟩)
  | nilp {C : Ctx} : VR C .nilp (.pointer none)
  | nils {C : Ctx} : VR C .nils (.slice none 0 0)
  | gs {C : Ctx} {id ver n cap : Nat} {a : Option Addr} (h : C.hok id ver) (e : C.hd id ver = .slice a n cap) : VR C (.gs id ver) (.slice a n cap)
  | pg {C : Ctx} {id ver sz i off b n cap : Nat} (h : C.hok id ver) (e : C.hd id ver = .slice (some ⟨b, 0, none⟩) n cap) (hi : i < n) : VR C (.pg id ver sz i off) (.pointer (some ⟨b, i * sz + off, none⟩))
  | ptr {C : Ctx} {id : Nat} (off : Nat) (h : C.dom id) : VR C (.ptr id off) (.pointer (some ⟨C.ρ id, off, none⟩))
  | px {C : Ctx} {id : Nat} (off n : Nat) {i : Nat} (h : C.dom id) (hi : i < n) : VR C (.px id off n i) (.pointer (some ⟨C.ρ id, off + i, none⟩))
  | agg {C : Ctx} {l : List AV} {vs : List Value} (h : CR C l vs) : VR C (.agg l) (.agg vs.toArray)
  | tup {C : Ctx} {l : List AV} {vs : List Value} (h : TR C l vs) : VR C (.tup l) (.tuple vs.toArray)
  | ro {C : Ctx} {sz n : Nat} {get : Nat → List AV} {b o cap : Nat} {cs : Nat → List Value} (hb : C.R b) (h : ∀ i, i < n → CR C.bare (get i) (cs i)) (hl : ∀ i, i < n → (cs i).length = sz)
      (hc : ∀ i j, i < n → j < sz → C.w.cell? ⟨b, o + i * sz + j, none⟩ = (cs i)[j]?) (hcap : n ≤ cap) (hn : n ≤ 9223372036854775807) : VR C (.ro sz n get) (.slice (some ⟨b, o, none⟩) n cap)
  | ro0 {C : Ctx} {sz : Nat} {get : Nat → List AV} : VR C (.ro sz 0 get) (.slice none 0 0)
  | roE {C : Ctx} {sz : Nat} {get : Nat → List AV} {a : Addr} {cap : Nat} : VR C (.ro sz 0 get) (.slice (some a) 0 cap)
  | vw {C : Ctx} {t : Nat} {xs : List (Dat t)} {v : Value} (h : VR C (.ro (datSize t) xs.length (encAt t xs)) v) : VR C (.vw t xs) v
  | rp {C : Ctx} {l : List AV} {off b o : Nat} {vs : List Value} (hb : C.R b) (h : CR C.bare l vs) (hc : ∀ j, j < vs.length → C.w.cell? ⟨b, o + j, none⟩ = vs[j]?) : VR C (.rp l off) (.pointer (some ⟨b, o + off, none⟩))
  | clo {C : Ctx} {f : Nat} {l : List AV} {vs : List Value} (h : TR C l vs) : VR C (.clo f l) (.func (.func f) #[] vs.toArray)
  | osl {C : Ctx} {id n cap : Nat} (off : Nat) (h : C.dom id) (hcap : n ≤ cap) (hn : n ≤ 9223372036854775807) : VR C (.osl id off n) (.slice (some ⟨C.ρ id, off, none⟩) n cap)
inductive CR : Ctx → List AV → List Value → Prop
  | nil {C : Ctx} : CR C [] []
  | one {C : Ctx} {a : AV} {v : Value} {l : List AV} {vs : List Value} (ha : a.single = true) (hv : v.oneCell' = true) (h : VR C a v) (hl : CR C l vs) : CR C (a :: l) (v :: vs)
  | ar {C : Ctx} {n : Nat} {f : Nat → AV} {g : Nat → Value} {l : List AV} {vs : List Value} (h0 : 0 < n) (h : ∀ j, j < n → VR C.bare (f j) (g j)) (h1 : ∀ j, j < n → (g j).oneCell' = true) (hf : ∀ j, j < n → (f j).flat = true) (hl : CR C l vs) :
      CR C (.ar n f :: l) ((List.range n).map g ++ vs)
inductive TR : Ctx → List AV → List Value → Prop
  | nil {C : Ctx} : TR C [] []
  | cons {C : Ctx} {a : AV} {v : Value} {l : List AV} {vs : List Value} (h : VR C a v) (hl : TR C l vs) : TR C (a :: l) (v :: vs)
end

structure Ctx.Le (C C' : Ctx) : Prop where
  dom : ∀ id, C.dom id → C'.dom id ∧ C'.ρ id = C.ρ id
  R : ∀ b, C.R b → C'.R b ∧ C'.w.heap[b]? = C.w.heap[b]?
  hok : ∀ id v, C.hok id v → C'.hok id v ∧ C'.hd id v = C.hd id v

theorem Ctx.Le.refl (C : Ctx) : C.Le C := ⟨fun _ h => ⟨h, rfl⟩, fun _ h => ⟨h, rfl⟩, fun _ _ h => ⟨h, rfl⟩⟩
theorem Ctx.Le.trans {A B C : Ctx} (h : A.Le B) (k : B.Le C) : A.Le C :=
  ⟨fun id hd => ⟨(k.dom id (h.dom id hd).1).1, (k.dom id (h.dom id hd).1).2.trans (h.dom id hd).2⟩,
   fun b hb => ⟨(k.R b (h.R b hb).1).1, (k.R b (h.R b hb).1).2.trans (h.R b hb).2⟩,
   fun id v hv => ⟨(k.hok id v (h.hok id v hv).1).1, (k.hok id v (h.hok id v hv).1).2.trans (h.hok id v hv).2⟩⟩

theorem cell_of_block {w w' : World} {b : Nat} (h : w'.heap[b]? = w.heap[b]?) (o : Nat) (s : Option Nat) : w'.cell? ⟨b, o, s⟩ = w.cell? ⟨b, o, s⟩ := by
  unfold World.cell?; rw [h]

theorem Ctx.Le.bare {C C' : Ctx} (h : C.Le C') : C.bare.Le C'.bare := ⟨fun _ h => h.elim, h.R, fun _ _ h => h.elim⟩
theorem Ctx.bare_le (C : Ctx) : C.bare.Le C := ⟨fun _ h => h.elim, fun _ h => ⟨h, rfl⟩, fun _ _ h => h.elim⟩

mutual
theorem VR.mono {C C' : Ctx} (hle : C.Le C') {a : AV} {v : Value} (h : VR C a v) : VR C' a v := by
  match h with
  | .poison v => exact .poison v
  | .i hk h => exact .i hk h
  | .u hk => exact .u hk
  | .b x => exact .b x
  | .str s h => exact .str s h
  | .nilp => exact .nilp
  | .nils => exact .nils
  | .gs h e => exact .gs (hle.hok _ _ h).1 ((hle.hok _ _ h).2.trans e)
  | .pg h e hi => exact .pg (hle.hok _ _ h).1 ((hle.hok _ _ h).2.trans e) hi
  | .ptr off h => rw [← (hle.dom _ h).2]; exact .ptr off (hle.dom _ h).1
  | .px off n h hi => rw [← (hle.dom _ h).2]; exact .px off n (hle.dom _ h).1 hi
  | .agg h => exact .agg (CR.mono hle h)
  | .tup h => exact .tup (TR.mono hle h)
  | .clo h => exact .clo (TR.mono hle h)
  | .osl off h hcap hn => rw [← (hle.dom _ h).2]; exact .osl off (hle.dom _ h).1 hcap hn
  | .ro hb h hl hc hcap hn => exact .ro (hle.R _ hb).1 (fun i hi => CR.mono hle.bare (h i hi)) hl (fun i j hi hj => by rw [cell_of_block (hle.R _ hb).2]; exact hc i j hi hj) hcap hn
  | .ro0 => exact .ro0
  | .roE => exact .roE
  | .vw h => exact .vw (VR.mono hle h)
  | .rp hb h hc => exact .rp (hle.R _ hb).1 (CR.mono hle.bare h) (fun j hj => by rw [cell_of_block (hle.R _ hb).2]; exact hc j hj)
theorem CR.mono {C C' : Ctx} (hle : C.Le C') {l : List AV} {vs : List Value} (h : CR C l vs) : CR C' l vs := by
  match h with
  | .nil => exact .nil
  | .one ha hv h hl => exact .one ha hv (VR.mono hle h) (CR.mono hle hl)
  | .ar h0 h h1 hf hl => exact .ar h0 (fun j hj => VR.mono hle.bare (h j hj)) h1 hf (CR.mono hle hl)
theorem TR.mono {C C' : Ctx} (hle : C.Le C') {l : List AV} {vs : List Value} (h : TR C l vs) : TR C' l vs := by
  match h with
  | .nil => exact .nil
  | .cons h hl => exact .cons (VR.mono hle h) (TR.mono hle hl)
end

theorem ro_dom {C : Ctx} {s n : Nat} {g : Nat → List AV} {v : Value} (D : Nat → Prop) (H : Nat → Nat → Prop) (h : VR C (.ro s n g) v) : VR { C with dom := D, hok := H } (.ro s n g) v := by
  cases h with
  | ro hb h hl hc hcap hn => exact VR.ro (C := { C with dom := D, hok := H }) hb h hl hc hcap hn
  | ro0 => exact .ro0
  | roE => exact .roE
theorem ro_congr {C : Ctx} {s n : Nat} {g g' : Nat → List AV} {v : Value} (hg : ∀ i, i < n → g i = g' i) (h : VR C (.ro s n g) v) : VR C (.ro s n g') v := by
  cases h with
  | ro hb h hl hc hcap hn => exact VR.ro hb (fun i hi => by rw [← hg i hi]; exact h i hi) hl hc hcap hn
  | ro0 => exact .ro0
  | roE => exact .roE
theorem vw_inv {C : Ctx} {t : Nat} {xs : List (Dat t)} {v : Value} (h : VR C (.vw t xs) v) : VR C (.ro (datSize t) xs.length (encAt t xs)) v := by
  cases h with
  | vw h => exact h

end Go.Proofs.YtcdnbdphakhilaaGreatDoor.Ev
namespace Go.Proofs.YtcdnbdphakhilaaGreatDoor.Ev

theorem wrap_has (k : IntKind) (n : Int) : k.has (k.wrap n) := by
  cases k <;> simp [IntKind.has, IntKind.min, IntKind.max, IntKind.wrap, IntKind.bits, IntKind.signed] <;> (try split) <;> omega

theorem wrap_of_has {k : IntKind} {n : Int} (h : k.has n) : k.wrap n = n := by
  cases k <;> simp [IntKind.has, IntKind.min, IntKind.max, IntKind.wrap, IntKind.bits, IntKind.signed] at h ⊢ <;> (try split) <;> omega

theorem wrap_u {k : IntKind} {w : Nat} (hk : isU k = some w) (n : Int) : k.wrap n = ((BitVec.ofInt w n).toNat : Int) := by
  cases k <;> simp [isU] at hk <;> subst hk <;> simp [IntKind.wrap, IntKind.bits, IntKind.signed] <;> omega

theorem bits_u {k : IntKind} {w : Nat} (hk : isU k = some w) : k.bits = w := by
  cases k <;> simp [isU] at hk <;> subst hk <;> rfl

theorem isU_inj {k k' : IntKind} {w : Nat} (h : isU k = some w) (h' : isU k' = some w) : k = k' := by
  cases k <;> simp [isU] at h <;> subst h <;> cases k' <;> simp [isU] at h' <;> rfl

theorem wrap_toInt {k : IntKind} (hk : isU k = none) (x : BitVec k.bits) : k.wrap (x.toNat : Int) = x.toInt := by
  have h := x.isLt
  cases k <;> simp [isU] at hk <;> simp [IntKind.wrap, IntKind.bits, IntKind.signed, BitVec.toInt] at * <;> (try split) <;> omega

theorem has_toInt {k : IntKind} (hk : isU k = none) (x : BitVec k.bits) : k.has x.toInt := by
  rw [← wrap_toInt hk]; exact wrap_has k _

theorem ofInt_toNat {w : Nat} (x : BitVec w) : BitVec.ofInt w (x.toNat : Int) = x := by
  apply BitVec.eq_of_toNat_eq
  simp

/-- A description as the evaluator has it. -/
def tdOf : TypeDesc → TD
  | .int k => .int k
  | .bool => .bool
  | .string => .string
  | .struct fs => .struct (fs.toList.map fun f => (f.offset, f.type))
  | .array n e => .array n e
  | .slice e => .slice e
  | .pointer e => .pointer e
  | _ => .other

/-- '==' of values of this type comes to what their cells say. -/
def EqRuns (P : Program) (t : TypeId) (zs : List AV) : Prop :=
  ∀ (C : Ctx) (xs ys : List AV) (X Y : List Value) (e : Bool), eqCells zs xs ys = some e → CR C xs X → CR C ys Y →
    ∀ (w : World) (op : BinOp) (xo yo : Operand), (eqGuard op t xo yo (.agg X.toArray) (.agg Y.toArray)).run P w = .ok () w ∧ (Op.equal t (.agg X.toArray) (.agg Y.toArray)).run P w = .ok e w

structure TyOk1 (P : Program) (t : TypeId) (d : TyI) : Prop where
  und : ∃ D, P.underlying t = some D ∧ tdOf D = d.desc
  info : ∃ i, P.info? t = some i ∧ i.size = d.size ∧ ∃ z, i.zero = some z ∧ ∀ C, CR C d.zero z.cells.toList
  bytes : ∀ i, P.info? t = some i → i.bytes ≤ 1048576
  eq : d.eq = true → isAggD d.desc = true → EqRuns P t d.zero
  fields : ∀ fs, P.underlying t = some (.struct fs) → ∀ f ∈ fs.toList, (P.info? f.type).isSome = true

def TyOk (P : Program) (T : TypeId → Option TyI) : Prop := ∀ t d, T t = some d → TyOk1 P t d

section
variable {P : Program} {C : Ctx} {w : World}

theorem opI_run {op : BinOp} {t : TypeId} {k : IntKind} {a b : Int} {c : List Bool} {v : AV} (hk : isU k = none) (hs : isShift op = false) (h : opI op k a b = some (c, v)) (hc : ∀ x ∈ c, x = true)
    (hb : k.has b) : ∃ V, (binOp op t (.int k a) (.int k b)).run P w = .ok V w ∧ VR C v V := by
  have W := wrap_has k
  have B : ∀ x : BitVec k.bits, VR C (.i k x.toInt) (.int k (k.wrap (x.toNat : Int))) := fun x => by rw [wrap_toInt hk]; exact .i hk (has_toInt hk _)
  cases op <;> simp only [isShift, reduceCtorEq] at hs <;> simp only [opI, Option.some.injEq, Prod.mk.injEq, reduceCtorEq] at h <;> obtain ⟨rfl, rfl⟩ := h
  case and => rw [binOp_and, intBits_and]; exact ⟨_, rfl, B _⟩
  case or => rw [binOp_or, intBits_or]; exact ⟨_, rfl, B _⟩
  case xor => rw [binOp_xor, intBits_xor]; exact ⟨_, rfl, B _⟩
  case andNot => rw [binOp_andNot, intBits_andNot]; exact ⟨_, rfl, B _⟩
  all_goals simp [binOp, Op.intArith, Op.intDiv, Op.intCmp] at hc ⊢
  case add => exact .i hk (W _)
  case sub => exact .i hk (W _)
  case mul => exact .i hk (W _)
  case quo => rw [if_neg hc]; exact ⟨_, rfl, .i hk (W _)⟩
  case rem =>
    rw [if_neg hc]
    refine ⟨_, rfl, .i hk ?_⟩
    have h1 := Int.natAbs_tmod a b
    have h2 : a.natAbs % b.natAbs < b.natAbs := Nat.mod_lt _ (by omega)
    rw [← h1] at h2
    cases k <;> simp [isU] at hk <;> simp [IntKind.has, IntKind.min, IntKind.max, IntKind.bits, IntKind.signed] at hb ⊢ <;> omega
  case eql => exact .b _
  case neq => exact .b _
  case lss => exact .b _
  case leq => exact .b _
  case gtr => exact .b _
  case geq => exact .b _

theorem opU_run {op : BinOp} {t : TypeId} {k : IntKind} {n : Nat} {a b : BitVec n} {c : List Bool} {v : AV} (hk : isU k = some n) (hs : isShift op = false) (h : opU op n a b = some (c, v)) (hc : ∀ x ∈ c, x = true) :
    ∃ V, (binOp op t (.int k a.toNat) (.int k b.toNat)).run P w = .ok V w ∧ VR C v V := by
  have W := wrap_u hk
  have hbits := bits_u hk
  subst hbits
  have key : ∀ x : BitVec k.bits, k.wrap (x.toNat : Int) = (x.toNat : Int) := fun x => by rw [W, ofInt_toNat]
  have B : ∀ x : BitVec k.bits, VR C (.u k.bits x) (.int k (k.wrap (x.toNat : Int))) := fun x => by rw [key]; exact .u hk
  cases op <;> simp only [isShift, reduceCtorEq] at hs <;> simp only [opU, Option.some.injEq, Prod.mk.injEq, reduceCtorEq] at h <;> obtain ⟨rfl, rfl⟩ := h
  case and => rw [binOp_and, intBits_and]; unfold Go.bits; simp only [ofInt_toNat]; exact ⟨_, rfl, B _⟩
  case or => rw [binOp_or, intBits_or]; unfold Go.bits; simp only [ofInt_toNat]; exact ⟨_, rfl, B _⟩
  case xor => rw [binOp_xor, intBits_xor]; unfold Go.bits; simp only [ofInt_toNat]; exact ⟨_, rfl, B _⟩
  case andNot => rw [binOp_andNot, intBits_andNot]; unfold Go.bits; simp only [ofInt_toNat]; exact ⟨_, rfl, B _⟩
  case quo =>
    have hb : ¬ (b.toNat : Int) = 0 := fun e => by simp at hc; exact hc (BitVec.eq_of_toNat_eq (by simpa using e))
    rw [binOp_quo]; simp only [Op.intDiv, hb, if_false]
    refine ⟨_, rfl, ?_⟩
    rw [show ((a.toNat : Int).tdiv (b.toNat : Int)) = ((a / b).toNat : Int) by rw [BitVec.toNat_udiv]; rfl]
    exact B _
  case rem =>
    have hb : ¬ (b.toNat : Int) = 0 := fun e => by simp at hc; exact hc (BitVec.eq_of_toNat_eq (by simpa using e))
    rw [binOp_rem]; simp only [Op.intDiv, hb, if_false]
    refine ⟨_, rfl, ?_⟩
    rw [show ((a.toNat : Int).tmod (b.toNat : Int)) = ((a % b).toNat : Int) by rw [BitVec.toNat_umod]; rfl]
    exact .u hk
  all_goals simp [binOp, Op.intArith, Op.intCmp]
  case add =>
    rw [W, show BitVec.ofInt k.bits ((a.toNat : Int) + (b.toNat : Int)) = a + b by rw [BitVec.ofInt_add, ofInt_toNat, ofInt_toNat]]; exact .u hk
  case sub =>
    rw [W, show BitVec.ofInt k.bits ((a.toNat : Int) - (b.toNat : Int)) = a - b by rw [Int.sub_eq_add_neg, BitVec.ofInt_add, BitVec.ofInt_neg, ofInt_toNat, ofInt_toNat, BitVec.sub_eq_add_neg]]; exact .u hk
  case mul =>
    rw [W, show BitVec.ofInt k.bits ((a.toNat : Int) * (b.toNat : Int)) = a * b by rw [BitVec.ofInt_mul, ofInt_toNat, ofInt_toNat]]; exact .u hk
  case eql => rw [show (a == b) = ((a.toNat : Int) == (b.toNat : Int)) by rw [Bool.eq_iff_iff]; simp [BitVec.toNat_eq]; try omega]; exact .b _
  case neq => rw [show (a != b) = ((a.toNat : Int) != (b.toNat : Int)) by rw [Bool.eq_iff_iff]; simp [BitVec.toNat_eq]; try omega]; exact .b _
  case lss => exact .b _
  case leq => exact .b _
  case gtr => exact .b _
  case geq => exact .b _

theorem count_run {y : AV} {Y : Value} {c : List Bool} {n : Nat} (h : count y = some (c, n)) (hc : ∀ x ∈ c, x = true) (hy : VR C y Y) : ∃ k m, Y = .int k m ∧ 0 ≤ m ∧ m.toNat = n := by
  cases hy <;> simp [count] at h
  case i k m hk hm => obtain ⟨rfl, rfl⟩ := h; simp at hc; exact ⟨_, _, rfl, hc, rfl⟩
  case u k w x hk => obtain ⟨rfl, rfl⟩ := h; exact ⟨_, _, rfl, Int.natCast_nonneg _, by simp⟩

theorem shift_run {op : BinOp} {t : TypeId} {x : AV} {X : Value} {n : Nat} {v : AV} {k' : IntKind} {m : Int} (hs : isShift op = true) (h : opShift op n x = some v) (hx : VR C x X) (hm : 0 ≤ m) (hn : m.toNat = n) :
    ∃ V, (binOp op t X (.int k' m)).run P w = .ok V w ∧ VR C v V := by
  have hnot : ¬ m < 0 := by omega
  subst hn
  cases hx <;> simp only [opShift, reduceCtorEq] at h
  case i k a hk ha =>
    cases op <;> simp only [isShift, reduceCtorEq] at hs <;> simp only [Option.some.injEq] at h <;> subst h
    · rw [binOp_shl]; simp only [Op.shift, hnot, if_false]
      refine ⟨_, rfl, ?_⟩
      have : k.wrap (a * 2 ^ min m.toNat k.bits) = k.wrap (a * 2 ^ m.toNat) := by
        rcases Nat.le_total m.toNat k.bits with hle | hle
        · rw [Nat.min_eq_left hle]
        · rw [Nat.min_eq_right hle]
          obtain ⟨d, hd⟩ := Nat.exists_eq_add_of_le hle
          rw [hd, Int.pow_add, ← Int.mul_assoc, Int.mul_assoc a, Int.mul_comm (2 ^ k.bits) (2 ^ d), ← Int.mul_assoc]
          cases k <;> simp [isU] at hk <;> simp [IntKind.wrap, IntKind.bits, IntKind.signed]
      rw [this]
      exact .i hk (wrap_has _ _)
    · rw [binOp_shr]; simp only [Op.shift, hnot, if_false]
      refine ⟨_, rfl, ?_⟩
      have hp : (0 : Int) ≤ 2 ^ min m.toNat k.bits := Int.pow_nonneg (by decide)
      rw [Int.fdiv_eq_ediv_of_nonneg _ hp]
      have e : a / 2 ^ min m.toNat k.bits = a / 2 ^ m.toNat := by
        rcases Nat.le_total m.toNat k.bits with hle | hle
        · rw [Nat.min_eq_left hle]
        · rw [Nat.min_eq_right hle]
          have h2 : (2 : Int) ^ k.bits ≤ 2 ^ m.toNat := by
            have := Nat.pow_le_pow_right (n := 2) (by decide) hle
            exact_mod_cast this
          have hbd : -(2 ^ k.bits : Int) ≤ a ∧ a < 2 ^ k.bits := by
            cases k <;> simp [isU] at hk <;> simp [IntKind.has, IntKind.min, IntKind.max, IntKind.bits, IntKind.signed] at ha ⊢ <;> omega
          have hpos : (0 : Int) < 2 ^ k.bits := Int.pow_pos (by decide)
          rcases Int.lt_or_le a 0 with hneg | hpos'
          · rw [Int.ediv_eq_neg_one_of_neg_of_le hneg (by omega), Int.ediv_eq_neg_one_of_neg_of_le hneg (by omega)]
          · rw [Int.ediv_eq_zero_of_lt hpos' (by omega), Int.ediv_eq_zero_of_lt hpos' (by omega)]
      rw [e]
      refine .i hk ?_
      have hd : a / 2 ^ m.toNat ≤ max a 0 ∧ min a (-1) ≤ a / 2 ^ m.toNat := by
        have hpp : (0 : Int) < 2 ^ m.toNat := Int.pow_pos (by decide)
        constructor
        · rcases Int.lt_or_le a 0 with hneg | hp'
          · have := Int.ediv_neg_of_neg_of_pos hneg hpp; omega
          · have := Int.ediv_le_self (2 ^ m.toNat) hp'; omega
        · rcases Int.lt_or_le a 0 with hneg | hp'
          · have h1 := Int.le_ediv_of_mul_le (a := a) (b := a) hpp (by
              have : a * 2 ^ m.toNat ≤ a * 1 := Int.mul_le_mul_of_nonpos_left (by omega) (by omega)
              omega)
            omega
          · have := Int.ediv_nonneg hp' (Int.le_of_lt hpp); omega
      cases k <;> simp [isU] at hk <;> simp [IntKind.has, IntKind.min, IntKind.max, IntKind.bits, IntKind.signed] at ha ⊢ <;> omega
  case u k n x hk =>
    have W := wrap_u hk
    have hbits := bits_u hk
    subst hbits
    cases op <;> simp only [isShift, reduceCtorEq] at hs <;> simp only [Option.some.injEq] at h <;> subst h
    · rw [binOp_shl]; simp only [Op.shift, hnot, if_false]
      refine ⟨_, rfl, ?_⟩
      have : k.wrap ((x.toNat : Int) * 2 ^ min m.toNat k.bits) = ((x <<< m.toNat).toNat : Int) := by
        rw [W]
        congr 1
        rw [BitVec.toNat_ofInt, BitVec.toNat_shiftLeft, Nat.shiftLeft_eq]
        have e1 : ((x.toNat : Int) * 2 ^ min m.toNat k.bits) = ((x.toNat * 2 ^ min m.toNat k.bits : Nat) : Int) := by simp
        rw [e1, ← Int.natCast_emod, Int.toNat_natCast]
        rcases Nat.le_total m.toNat k.bits with hle | hle
        · rw [Nat.min_eq_left hle]
        · rw [Nat.min_eq_right hle]
          obtain ⟨d, hd⟩ := Nat.exists_eq_add_of_le hle
          rw [hd, Nat.pow_add, ← Nat.mul_assoc, Nat.mul_right_comm]
          simp
      rw [this]; exact .u hk
    · rw [binOp_shr]; simp only [Op.shift, hnot, if_false]
      refine ⟨_, rfl, ?_⟩
      have : (x.toNat : Int).fdiv (2 ^ min m.toNat k.bits) = ((x >>> m.toNat).toNat : Int) := by
        rw [Int.fdiv_eq_ediv_of_nonneg _ (Int.pow_nonneg (by decide)), BitVec.toNat_ushiftRight, Nat.shiftRight_eq_div_pow]
        have e1 : ((x.toNat : Int) / 2 ^ min m.toNat k.bits) = ((x.toNat / 2 ^ min m.toNat k.bits : Nat) : Int) := by simp
        rw [e1]
        congr 1
        rcases Nat.le_total m.toNat k.bits with hle | hle
        · rw [Nat.min_eq_left hle]
        · rw [Nat.min_eq_right hle, Nat.div_eq_of_lt x.isLt, Nat.div_eq_of_lt (Nat.lt_of_lt_of_le x.isLt (Nat.pow_le_pow_right (by decide) hle))]
      rw [this]; exact .u hk

theorem eqOp_some {op : BinOp} {e : Bool} {c : List Bool} {v : AV} (h : eqOp op e = some (c, v)) : (op = .eql ∧ v = .b e) ∨ (op = .neq ∧ v = .b (!e)) := by
  cases op <;> simp [eqOp] at h
  · exact .inl ⟨rfl, h.2.symm⟩
  · exact .inr ⟨rfl, h.2.symm⟩

theorem desc_eq {t : TypeId} {d : TyI} (h : TyOk1 P t d) : ∃ D, P.underlying t = some D ∧ tdOf D = d.desc := h.und

theorem und_bool {t : TypeId} {d : TyI} (h : TyOk1 P t d) (hd : d.desc = .bool) : P.underlying t = some .bool := by
  obtain ⟨D, h1, h2⟩ := h.und
  rw [hd] at h2
  cases D <;> simp [tdOf] at h2
  exact h1
theorem und_pointer {t e : TypeId} {d : TyI} (h : TyOk1 P t d) (hd : d.desc = .pointer e) : P.underlying t = some (.pointer e) := by
  obtain ⟨D, h1, h2⟩ := h.und
  rw [hd] at h2
  cases D <;> simp [tdOf] at h2
  subst h2; exact h1
theorem und_string {t : TypeId} {d : TyI} (h : TyOk1 P t d) (hd : d.desc = .string) : P.underlying t = some .string := by
  obtain ⟨D, h1, h2⟩ := h.und
  rw [hd] at h2
  cases D <;> simp [tdOf] at h2
  exact h1
theorem und_int {t : TypeId} {k : IntKind} {d : TyI} (h : TyOk1 P t d) (hd : d.desc = .int k) : P.underlying t = some (.int k) := by
  obtain ⟨D, h1, h2⟩ := h.und
  rw [hd] at h2
  cases D <;> simp [tdOf] at h2
  subst h2; exact h1
theorem und_array {t e : TypeId} {n : Nat} {d : TyI} (h : TyOk1 P t d) (hd : d.desc = .array n e) : P.underlying t = some (.array n e) := by
  obtain ⟨D, h1, h2⟩ := h.und
  rw [hd] at h2
  cases D <;> simp [tdOf] at h2
  obtain ⟨rfl, rfl⟩ := h2; exact h1
theorem und_slice {t e : TypeId} {d : TyI} (h : TyOk1 P t d) (hd : d.desc = .slice e) : P.underlying t = some (.slice e) := by
  obtain ⟨D, h1, h2⟩ := h.und
  rw [hd] at h2
  cases D <;> simp [tdOf] at h2
  subst h2; exact h1
theorem und_struct {t : TypeId} {l : List (Nat × TypeId)} {d : TyI} (h : TyOk1 P t d) (hd : d.desc = .struct l) : ∃ fs, P.underlying t = some (.struct fs) ∧ fs.toList.map (fun f => (f.offset, f.type)) = l := by
  obtain ⟨D, h1, h2⟩ := h.und
  rw [hd] at h2
  cases D <;> simp [tdOf] at h2
  exact ⟨_, h1, by simpa using h2⟩

theorem CR_length {l : List AV} {vs : List Value} (h : CR C l vs) : vs.length = widthC l := by
  match h with
  | .nil => rfl
  | .one ha hv h hl => 
    have := CR_length hl
    rename_i a v l vs
    have hw : a.width = 1 := by cases a <;> simp [AV.single] at ha <;> rfl
    simp [widthC, hw, this]; omega
  | .ar h0 h h1 _ hl =>
    have := CR_length hl
    simp [widthC, AV.width, this]

/-- The guard before '==', then '=='. -/
def eqRun (op : BinOp) (t : TypeId) (xo yo : Operand) (X Y : Value) : Sem Value := do eqGuard op t xo yo X Y; binOp op t X Y

theorem eqRun_of {op : BinOp} {t : TypeId} {xo yo : Operand} {X Y V : Value} (h : (eqGuard op t xo yo X Y).run P w = .ok () w) (h' : (binOp op t X Y).run P w = .ok V w) : (eqRun op t xo yo X Y).run P w = .ok V w := by
  unfold eqRun
  simp only [Sem.run_bind, h, Result.andThen, h']

theorem equal_ok {op : BinOp} {t : TypeId} {X Y : Value} {e : Bool} {c : List Bool} {v : AV} (h : eqOp op e = some (c, v)) (hx : (Op.equal t X Y).run P w = .ok e w)
    (he : binOp .eql t X Y = do pure (.bool (← Op.equal t X Y))) (hn : binOp .neq t X Y = do pure (.bool (!(← Op.equal t X Y)))) :
    ∃ V, (binOp op t X Y).run P w = .ok V w ∧ VR C v V := by
  rcases eqOp_some h with ⟨rfl, rfl⟩ | ⟨rfl, rfl⟩
  · rw [he]; refine ⟨_, ?_, .b e⟩; simp [hx]
  · rw [hn]; refine ⟨_, ?_, .b (!e)⟩; simp [hx]

theorem equalIn_bool (d : Nat) {t : TypeId} (p q : Bool) (hu : P.underlying t = some .bool) : (Op.equalIn (d + 1) t (.bool p) (.bool q)).run P w = .ok (p == q) w := by
  simp [Op.equalIn, run_underlying hu]
theorem equalIn_int (d : Nat) {t : TypeId} {k k' : IntKind} (p q : Int) (hu : P.underlying t = some (.int k')) : (Op.equalIn (d + 1) t (.int k p) (.int k q)).run P w = .ok (p == q) w := by
  simp [Op.equalIn, run_underlying hu]
theorem equalIn_str (d : Nat) {t : TypeId} (p q : ByteArray) (hu : P.underlying t = some .string) : (Op.equalIn (d + 1) t (.string p) (.string q)).run P w = .ok (p == q) w := by
  simp [Op.equalIn, run_underlying hu]
theorem equalIn_nil (d : Nat) {t e : TypeId} (b : Option Addr) (hu : P.underlying t = some (.pointer e)) : (Op.equalIn (d + 1) t (.pointer none) (.pointer b)).run P w = .ok b.isNone w := by
  simp [Op.equalIn, run_underlying hu]
theorem equalIn_some (d : Nat) {t e : TypeId} (a : Addr) (hu : P.underlying t = some (.pointer e)) : (Op.equalIn (d + 1) t (.pointer (some a)) (.pointer none)).run P w = .ok false w := by
  simp [Op.equalIn, run_underlying hu]
theorem equal_bool {t : TypeId} (p q : Bool) (hu : P.underlying t = some .bool) : (Op.equal t (.bool p) (.bool q)).run P w = .ok (p == q) w := equalIn_bool 9999 p q hu
theorem equal_nil {t e : TypeId} (b : Option Addr) (hu : P.underlying t = some (.pointer e)) : (Op.equal t (.pointer none) (.pointer b)).run P w = .ok b.isNone w := equalIn_nil 9999 b hu
theorem equal_some {t e : TypeId} (a : Addr) (hu : P.underlying t = some (.pointer e)) : (Op.equal t (.pointer (some a)) (.pointer none)).run P w = .ok false w := equalIn_some 9999 a hu

theorem evBin_run {T : TypeId → Option TyI} (hT : TyOk P T) {op : BinOp} {t : TypeId} {x y : AV} {X Y : Value} {xo yo : Operand} {c : List Bool} {v : AV} (h : evBin T op t x y = some (c, v)) (hc : ∀ b ∈ c, b = true)
    (hx : VR C x X) (hy : VR C y Y) : ∃ V, (eqRun op t xo yo X Y).run P w = .ok V w ∧ VR C v V := by
  unfold evBin at h
  cases hs : isShift op with
  | true =>
    rw [hs] at h
    simp only at h
    cases hcn : count y with
    | none => simp [hcn] at h
    | some r =>
      obtain ⟨c', n⟩ := r
      simp only [hcn] at h
      cases hsh : opShift op n x with
      | none => simp [hsh] at h
      | some v' =>
        simp only [hsh, Option.some.injEq, Prod.mk.injEq] at h
        obtain ⟨rfl, rfl⟩ := h
        obtain ⟨k, m, rfl, hm, hn⟩ := count_run hcn hc hy
        obtain ⟨V, hV, hr⟩ := shift_run (P := P) (w := w) (t := t) (k' := k) hs hsh hx hm hn
        refine ⟨V, eqRun_of ?_ hV, hr⟩
        cases op <;> simp [isShift] at hs <;> rfl
  | false =>
    rw [hs] at h
    simp only at h
    cases hx with
    | i hk ha =>
      cases hy with
      | i hk' hb =>
        simp only at h
        split at h
        · rename_i hkk; subst hkk
          obtain ⟨V, hV, hr⟩ := opI_run (P := P) (w := w) (t := t) (C := C) hk hs h hc hb
          exact ⟨V, eqRun_of (by rw [eqGuard_at_int]; rfl) hV, hr⟩
        · simp at h
      | _ => simp at h
    | @u _ k n x hk =>
      cases hy with
      | @u _ k' n' y hk' =>
        simp only at h
        split at h
        · rename_i hkk; subst hkk
          obtain rfl := isU_inj hk hk'
          obtain ⟨V, hV, hr⟩ := opU_run (P := P) (w := w) (t := t) (C := C) hk hs h hc
          exact ⟨V, eqRun_of (by rw [eqGuard_at_int]; rfl) hV, hr⟩
        · simp at h
      | _ => simp at h
    | str s hsl =>
      cases hy with
      | str s' hsl' =>
        simp only at h
        have hlist : ∀ l : List UInt8, (⟨l.toArray⟩ : ByteArray).toList = l := fun l => by
          rw [ByteArray.toList_eq]
        by_cases hadd : op = .add
        · subst hadd
          simp only [opStr, Option.some.injEq, Prod.mk.injEq] at h
          obtain ⟨rfl, rfl⟩ := h
          simp at hc
          refine ⟨.string ⟨(s ++ s').toArray⟩, eqRun_of (by rw [eqGuard_at_string]; rfl) ?_, .str _ (by simpa using hc)⟩
          have hsz : ¬ (((⟨s.toArray⟩ : ByteArray).size + (⟨s'.toArray⟩ : ByteArray).size : Nat) : Int) > IntKind.i64.max := by
            simp [ByteArray.size]; omega
          simp only [binOp, Op.stringOp, hsz, if_false]
          have : (⟨s.toArray⟩ : ByteArray) ++ ⟨s'.toArray⟩ = ⟨(s ++ s').toArray⟩ := by
            apply ByteArray.ext; simp
          simp [this]
        · have h' : eqOp op (s == s') = some (c, v) := by
            cases op <;> first | exact absurd rfl hadd | exact h
          rcases eqOp_some h' with ⟨rfl, rfl⟩ | ⟨rfl, rfl⟩
          · refine ⟨.bool (s == s'), eqRun_of (by rw [eqGuard_at_string]; rfl) ?_, .b _⟩
            simp [binOp, Op.stringOp, hlist]
          · refine ⟨.bool (!(s == s')), eqRun_of (by rw [eqGuard_at_string]; rfl) ?_, .b _⟩
            simp [binOp, Op.stringOp, hlist]
      | _ => simp at h
    | b p =>
      cases hy with
      | b q =>
        simp only at h
        cases hTt : T t with
        | none => simp [hTt] at h
        | some d =>
          simp only [hTt] at h
          have ok := hT t d hTt
          split at h
          · rename_i hd
            have hu := und_bool ok hd
            obtain ⟨V, hV, hr⟩ := equal_ok (P := P) (C := C) (w := w) (t := t) (X := .bool p) (Y := .bool q) h (equal_bool _ _ hu) rfl rfl
            exact ⟨V, eqRun_of (by rw [eqGuard_at_bool]; rfl) hV, hr⟩
          · simp at h
      | _ => simp at h
    | @agg _ xs X hX =>
      cases hy with
      | @agg _ ys Y hY =>
        simp only at h
        cases hTt : T t with
        | none => simp [hTt] at h
        | some d =>
          simp only [hTt] at h
          have ok := hT t d hTt
          split at h
          · rename_i hd
            simp only [Bool.and_eq_true, beq_iff_eq] at hd
            obtain ⟨⟨⟨hd1, hd0⟩, hd2⟩, hd3⟩ := hd
            split at h
            · rename_i e he
              obtain ⟨hg, he'⟩ := ok.eq hd1 hd0 C xs ys X Y e he hX hY w op xo yo
              obtain ⟨V, hV, hr⟩ := equal_ok (P := P) (C := C) (w := w) (t := t) h he' rfl rfl
              exact ⟨V, eqRun_of hg hV, hr⟩
            · simp at h
          · simp at h
      | _ => simp at h
    | nilp =>
      cases hy with
      | nilp =>
        simp only at h
        cases hTt : T t with
        | none => simp [hTt] at h
        | some d =>
          simp only [hTt] at h
          have ok := hT t d hTt
          split at h
          · rename_i e hd
            have hu := und_pointer ok hd
            obtain ⟨V, hV, hr⟩ := equal_ok (P := P) (C := C) (w := w) (t := t) (X := .pointer none) (Y := .pointer none) h (equal_nil none hu) rfl rfl
            exact ⟨V, eqRun_of (by rw [eqGuard_at_pointer]; rfl) hV, hr⟩
          · simp at h
      | ptr off hd' =>
        simp only at h
        cases hTt : T t with
        | none => simp [hTt] at h
        | some d =>
          simp only [hTt] at h
          have ok := hT t d hTt
          split at h
          · rename_i e hd
            have hu := und_pointer ok hd
            obtain ⟨V, hV, hr⟩ := equal_ok (P := P) (C := C) (w := w) (t := t) (X := .pointer none) (Y := .pointer (some _)) h (equal_nil (some _) hu) rfl rfl
            exact ⟨V, eqRun_of (by rw [eqGuard_at_pointer]; rfl) hV, hr⟩
          · simp at h
      | _ => simp at h
    | ptr off hd' =>
      cases hy with
      | nilp =>
        simp only at h
        cases hTt : T t with
        | none => simp [hTt] at h
        | some d =>
          simp only [hTt] at h
          have ok := hT t d hTt
          split at h
          · rename_i e hd
            have hu := und_pointer ok hd
            obtain ⟨V, hV, hr⟩ := equal_ok (P := P) (C := C) (w := w) (t := t) (X := .pointer (some _)) (Y := .pointer none) h (equal_some _ hu) rfl rfl
            exact ⟨V, eqRun_of (by rw [eqGuard_at_pointer]; rfl) hV, hr⟩
          · simp at h
      | _ => simp at h
    | rp hb hl hc' =>
      cases hy with
      | nilp =>
        simp only at h
        cases hTt : T t with
        | none => simp [hTt] at h
        | some d =>
          simp only [hTt] at h
          have ok := hT t d hTt
          split at h
          · rename_i e hd
            have hu := und_pointer ok hd
            obtain ⟨V, hV, hr⟩ := equal_ok (P := P) (C := C) (w := w) (t := t) (X := .pointer (some _)) (Y := .pointer none) h (equal_some _ hu) rfl rfl
            exact ⟨V, eqRun_of (by rw [eqGuard_at_pointer]; rfl) hV, hr⟩
          · simp at h
      | _ => simp at h
    | _ => simp at h

theorem evUn_run {op : UnOp} {x v : AV} {X : Value} (h : evUn op x = some v) (hx : VR C x X) : ∃ V, (Op.unary op X).run P w = .ok V w ∧ VR C v V := by
  cases hx <;> simp only [evUn, reduceCtorEq] at h
  case i k n hk hn =>
    cases op <;> simp at h <;> subst h
    · refine ⟨_, ?_, .i hk (wrap_has k (-n))⟩
      simp [Op.unary, Op.intArith]
    · refine ⟨.int k (-1 - n), ?_, .i hk ?_⟩
      · have hs : k.signed = true := by cases k <;> simp [isU] at hk <;> rfl
        have e : k.wrap (((BitVec.ofInt k.bits (-1)) ^^^ BitVec.ofInt k.bits n).toNat : Int) = -1 - n := by
          rw [wrap_toInt hk, show (BitVec.ofInt k.bits (-1) ^^^ BitVec.ofInt k.bits n) = ~~~ BitVec.ofInt k.bits n by
            rw [show BitVec.ofInt k.bits (-1) = BitVec.allOnes k.bits by
              apply BitVec.eq_of_toInt_eq; cases k <;> rfl, BitVec.allOnes_xor]]
          rw [BitVec.toInt_eq_toNat_cond, BitVec.toNat_not, BitVec.toNat_ofInt]
          cases k <;> simp [isU] at hk <;> simp [IntKind.has, IntKind.min, IntKind.max, IntKind.bits, IntKind.signed] at hn ⊢ <;> omega
        have : (Op.intBits .xor k (if k.signed = true then -1 else k.max) n).run P w = .ok (.int k (k.wrap (((BitVec.ofInt k.bits (-1)) ^^^ BitVec.ofInt k.bits n).toNat : Int))) w := by rw [hs]; rfl
        show (Op.intBits .xor k (if k.signed = true then -1 else k.max) n).run P w = _
        rw [this, e]
      · cases k <;> simp [isU] at hk <;> simp [IntKind.has, IntKind.min, IntKind.max, IntKind.bits, IntKind.signed] at hn ⊢ <;> omega
  case u k n x hk =>
    have W := wrap_u hk
    have hbits := bits_u hk
    subst hbits
    cases op <;> simp at h <;> subst h
    · refine ⟨_, ?_, .u (x := -x) hk⟩
      have e : k.wrap (0 - (x.toNat : Int)) = ((-x).toNat : Int) := by rw [W, Int.zero_sub, BitVec.ofInt_neg, ofInt_toNat]
      show (Op.intArith .sub k 0 (x.toNat : Int)).run P w = _
      simp only [Op.intArith]
      rw [e]; rfl
    · refine ⟨_, ?_, .u (x := ~~~x) hk⟩
      have hs : k.signed = false := by cases k <;> simp [isU] at hk <;> rfl
      show (Op.intBits .xor k (if k.signed = true then -1 else k.max) (x.toNat : Int)).run P w = _
      rw [hs]
      have : (Op.intBits .xor k k.max (x.toNat : Int)).run P w = .ok (.int k (k.wrap (((BitVec.ofInt k.bits k.max) ^^^ BitVec.ofInt k.bits (x.toNat : Int)).toNat : Int))) w := rfl
      simp only [Bool.false_eq_true, if_false, this, ofInt_toNat]
      rw [W, ofInt_toNat, show BitVec.ofInt k.bits k.max = BitVec.allOnes k.bits by cases k <;> simp [isU] at hk <;> rfl, BitVec.allOnes_xor]
  case b p =>
    cases op <;> simp at h <;> subst h
    exact ⟨_, rfl, .b _⟩

theorem evConv_run {T : TypeId → Option TyI} (hT : TyOk P T) {s t : TypeId} {d ds : TyI} {x v : AV} {X : Value} (ht : T t = some d) (hs : T s = some ds) (h : evConv d.desc x = some v) (hx : VR C x X) :
    ∃ V, (convert s t X).run P w = .ok V w ∧ VR C v V := by
  have ok := hT t d ht
  obtain ⟨D, hD, _⟩ := (hT s ds hs).und
  cases hx <;> simp only [evConv, reduceCtorEq] at h
  case i k n hk hn =>
    split at h
    · rename_i k' hd
      have hu := und_int ok hd
      refine ⟨.int k' (k'.wrap n), by simp [convert, run_underlying hD, run_underlying hu, Conv.intToInt], ?_⟩
      simp only [Option.some.injEq] at h
      subst h
      cases hk' : isU k' with
      | some n' => simp only; rw [wrap_u hk']; exact .u hk'
      | none => exact .i hk' (wrap_has _ _)
    · simp at h
  case u k n x hk =>
    split at h
    · rename_i k' hd
      have hu := und_int ok hd
      refine ⟨.int k' (k'.wrap x.toNat), by simp [convert, run_underlying hD, run_underlying hu, Conv.intToInt], ?_⟩
      simp only [Option.some.injEq] at h
      subst h
      cases hk' : isU k' with
      | some n' => 
        simp only
        rw [wrap_u hk', show BitVec.ofInt n' (x.toNat : Int) = x.setWidth n' by apply BitVec.eq_of_toNat_eq; simp]
        exact .u hk'
      | none => exact .i hk' (wrap_has _ _)
    · simp at h
end
end Go.Proofs.YtcdnbdphakhilaaGreatDoor.Ev
namespace Go.Proofs.YtcdnbdphakhilaaGreatDoor.Ev

/-! ### Cells -/
theorem CR_app {C : Ctx} {l l' : List AV} {vs vs' : List Value} (h : CR C l vs) (h' : CR C l' vs') : CR C (l ++ l') (vs ++ vs') := by
  match h with
  | .nil => exact h'
  | .one ha hv h hl => exact .one ha hv h (CR_app hl h')
  | .ar h0 h h1 hf hl => rw [List.append_assoc]; exact .ar h0 h h1 hf (CR_app hl h')

theorem CR_cons {C : Ctx} {a : AV} {l : List AV} {vs vs' : List Value} (h : CR C [a] vs) (h' : CR C l vs') : CR C (a :: l) (vs ++ vs') := CR_app h h'

theorem CR_uncons {C : Ctx} {a : AV} {l : List AV} {vs : List Value} (h : CR C (a :: l) vs) : ∃ v1 v2, vs = v1 ++ v2 ∧ CR C [a] v1 ∧ CR C l v2 ∧ v1.length = a.width ∧ 0 < a.width := by
  cases h with
  | one ha hv h hl => exact ⟨[_], _, rfl, .one ha hv h .nil, hl, by cases a <;> simp [AV.single] at ha <;> rfl, by cases a <;> simp [AV.single] at ha <;> simp [AV.width]⟩
  | @ar _ n f g _ vs h0 h h1 hf hl => exact ⟨_, vs, rfl, by simpa using CR.ar h0 h h1 hf CR.nil, hl, by simp [AV.width], by simpa [AV.width] using h0⟩

theorem CR_one {C : Ctx} {a : AV} {vs : List Value} (h : CR C [a] vs) (ha : a.single = true) : ∃ v, vs = [v] ∧ VR C a v ∧ v.oneCell' = true := by
  cases h with
  | one ha hv h hl => cases hl; exact ⟨_, rfl, h, hv⟩
  | ar h0 h h1 hf hl => simp [AV.single] at ha

theorem CR_ar {C : Ctx} {n : Nat} {f : Nat → AV} {vs : List Value} (h : CR C [.ar n f] vs) : ∃ g : Nat → Value, vs = (List.range n).map g ∧ 0 < n ∧ (∀ j, j < n → VR C.bare (f j) (g j)) ∧ (∀ j, j < n → (g j).oneCell' = true) ∧ ∀ j, j < n → (f j).flat = true := by
  cases h with
  | one ha hv h hl => simp [AV.single] at ha
  | ar h0 h h1 hf hl => cases hl; exact ⟨_, by simp, h0, h, h1, hf⟩

theorem CR_oneCell {C : Ctx} {l : List AV} {vs : List Value} (h : CR C l vs) : ∀ v ∈ vs, v.oneCell' = true := by
  match h with
  | .nil => intro v hv; cases hv
  | .one ha hv h hl =>
    intro v hm
    rcases List.mem_cons.1 hm with rfl | hm
    · exact hv
    · exact CR_oneCell hl v hm
  | .ar h0 h h1 _ hl =>
    intro v hm
    rcases List.mem_append.1 hm with hm | hm
    · obtain ⟨j, hj, rfl⟩ := List.mem_map.1 hm
      exact h1 j (List.mem_range.1 hj)
    · exact CR_oneCell hl v hm

theorem splitC_CR {C : Ctx} : ∀ {l : List AV} {n : Nat} {p q : List AV} {vs : List Value}, splitC l n = some (p, q) → CR C l vs → CR C p (vs.take n) ∧ CR C q (vs.drop n) ∧ widthC p = n
  | l, 0, p, q, vs, h, hl => by
    simp [splitC] at h; obtain ⟨rfl, rfl⟩ := h
    exact ⟨.nil, by simpa using hl, rfl⟩
  | [], n + 1, p, q, vs, h, hl => by simp [splitC] at h
  | x :: l, n + 1, p, q, vs, h, hl => by
    simp only [splitC] at h
    cases hb : Nat.ble x.width (n + 1) with
    | false => simp [hb] at h
    | true =>
      simp only [hb] at h
      have hle : x.width ≤ n + 1 := Nat.le_of_ble_eq_true hb
      cases hs : splitC l (n + 1 - x.width) with
      | none => simp [hs] at h
      | some r =>
        obtain ⟨p', q'⟩ := r
        simp only [hs, Option.some.injEq, Prod.mk.injEq] at h
        obtain ⟨rfl, rfl⟩ := h
        obtain ⟨v1, v2, rfl, h1, h2, hw, hpos⟩ := CR_uncons hl
        obtain ⟨ih1, ih2, ih3⟩ := splitC_CR hs h2
        refine ⟨?_, ?_, ?_⟩
        · rw [List.take_append, List.take_of_length_le (by omega), hw]
          exact CR_cons h1 ih1
        · rw [List.drop_append, List.drop_of_length_le (by omega), hw]
          simpa using ih2
        · simp [widthC, ih3]; omega

/-- A value's cells. -/
theorem cells_CR {C : Ctx} {a : AV} {v : Value} (h : VR C a v) (hs : a.single = true ∨ ∃ l, a = .agg l) (h1 : a.single = true → v.oneCell' = true) : CR C a.cells v.cells.toList := by
  rcases hs with hs | ⟨l, rfl⟩
  · have e : a.cells = [a] := by cases a <;> simp [AV.single] at hs <;> rfl
    have e' : v.cells = #[v] := by have := h1 hs; cases v <;> simp [Value.oneCell'] at this <;> rfl
    rw [e, e']
    exact .one hs (h1 hs) h .nil
  · cases h with
    | agg h => simpa [AV.cells, Value.cells] using h

theorem ro_oneCell {C : Ctx} {s n : Nat} {g : Nat → List AV} {v : Value} (h : VR C (.ro s n g) v) : v.oneCell' = true := by cases h <;> rfl
theorem VR_oneCell {C : Ctx} {a : AV} {v : Value} (h : VR C a v) (hp : ∀ (e : a = .poison), False) (hs : a.single = true) : v.oneCell' = true := by
  cases h <;> first | rfl | (simp [AV.single] at hs; done) | exact (hp rfl).elim | (rename_i h; exact ro_oneCell h)

theorem plain_bare {C : Ctx} {a : AV} {v : Value} (h : VR C a v) (hp : a.plain = true) : VR C.bare a v ∧ v.oneCell' = true := by
  cases h <;> simp [AV.plain] at hp
  case i hk h => exact ⟨.i hk h, rfl⟩
  case u hk => exact ⟨.u hk, rfl⟩
  case b => exact ⟨.b _, rfl⟩
  case str h => exact ⟨.str _ h, rfl⟩
  case nilp => exact ⟨.nilp, rfl⟩
  case nils => exact ⟨.nils, rfl⟩

/-! ### Merging -/
theorem merge0_VR {C : Ctx} {c : Bool} {x y : AV} {v : Value} (hx : c = true → VR C x v) (hy : c = false → VR C y v) : VR C (merge0 c x y) v := by
  unfold merge0
  cases c with
  | true =>
    have h := hx rfl
    split <;> first | exact h | (split <;> first | exact .poison _ | (simp only [if_true]; exact h) | exact h) | exact .poison _
  | false =>
    have h := hy rfl
    split <;> first | exact h | exact .poison _ | skip
    · split
      · rename_i e; subst e; simpa using h
      · exact .poison _
    · split
      · rename_i e; subst e; simpa using h
      · exact .poison _
theorem merge0_single (c : Bool) (x y : AV) : (merge0 c x y).single = true := by
  unfold merge0
  split <;> first | rfl | (split <;> rfl)
theorem merge0_flat (c : Bool) (x y : AV) : (merge0 c x y).flat = true := by
  unfold merge0
  split <;> first | rfl | (split <;> rfl)
theorem mergeR0_CR {C : Ctx} {c : Bool} : ∀ {xs ys zs : List AV} {vs : List Value}, mergeR0 c xs ys = some zs → (c = true → CR C xs vs) → (c = false → CR C ys vs) → CR C zs vs
  | [], [], zs, vs, h, hx, hy => by
    simp [mergeR0] at h; subst h
    cases c with
    | true => exact hx rfl
    | false => exact hy rfl
  | x :: xs, y :: ys, zs, vs, h, hx, hy => by
    simp only [mergeR0] at h
    split at h
    · rename_i zs' hs hzs
      simp only [Option.some.injEq] at h; subst h
      simp only [Bool.and_eq_true] at hs
      have hz := merge0_single c x y
      cases c with
      | true =>
        obtain ⟨v1, v2, rfl, h1, h2, _, _⟩ := CR_uncons (hx rfl)
        obtain ⟨v, rfl, hv, ho⟩ := CR_one h1 hs.1
        exact .one hz ho (merge0_VR (fun _ => hv) (fun e => by cases e)) (mergeR0_CR hzs (fun _ => h2) (fun e => by cases e))
      | false =>
        obtain ⟨v1, v2, rfl, h1, h2, _, _⟩ := CR_uncons (hy rfl)
        obtain ⟨v, rfl, hv, ho⟩ := CR_one h1 hs.2
        exact .one hz ho (merge0_VR (fun e => by cases e) (fun _ => hv)) (mergeR0_CR hzs (fun e => by cases e) (fun _ => h2))
    · simp at h
  | [], _ :: _, _, _, h, _, _ => by simp [mergeR0] at h
  | _ :: _, [], _, _, h, _, _ => by simp [mergeR0] at h
theorem mergeRow_CR {C : Ctx} {c : Bool} {xs ys : List AV} {vs : List Value} (hx : c = true → CR C xs vs) (hy : c = false → CR C ys vs) : CR C (mergeRow c xs ys) vs := by
  unfold mergeRow
  split
  · rename_i l hl; exact mergeR0_CR hl hx hy
  · cases c with
    | true => exact hx rfl
    | false => exact hy rfl

theorem nils_vw {C : Ctx} {v : Value} (h : VR C .nils v) (t : Nat) : VR C (.vw t []) v := by
  cases h; exact .vw .ro0
theorem mergeS_VR {C : Ctx} {c : Bool} {x y z : AV} {v : Value} (hz : mergeS c x y = some z) (hx : c = true → VR C x v) (hy : c = false → VR C y v) : VR C z v ∧ z.single = true := by
  unfold mergeS at hz
  split at hz
  · split at hz
    · rename_i e; subst e
      simp only [Option.some.injEq] at hz; subst hz
      refine ⟨?_, rfl⟩
      cases c with
      | true => exact hx rfl
      | false => exact hy rfl
    · cases hz
  · simp only [Option.some.injEq] at hz; subst hz
    refine ⟨?_, rfl⟩
    cases c with
    | true => exact nils_vw (hx rfl) _
    | false => exact hy rfl
  · simp only [Option.some.injEq] at hz; subst hz
    refine ⟨?_, rfl⟩
    cases c with
    | true => exact hx rfl
    | false => exact nils_vw (hy rfl) _
  · split at hz
    · rename_i e; subst e
      simp only [Option.some.injEq] at hz; subst hz
      refine ⟨?_, rfl⟩
      cases c with
      | true => cases hx rfl with
        | ro hb h hl hc hcap hn => exact .ro hb (fun i hi => mergeRow_CR (fun _ => h i hi) (fun e => by cases e)) hl hc hcap hn
        | ro0 => exact .ro0
        | roE => exact .roE
      | false => cases hy rfl with
        | ro hb h hl hc hcap hn => exact .ro hb (fun i hi => mergeRow_CR (fun e => by cases e) (fun _ => h i hi)) hl hc hcap hn
        | ro0 => exact .ro0
        | roE => exact .roE
    · cases hz
  · simp only [Option.some.injEq] at hz; subst hz
    refine ⟨?_, rfl⟩
    cases c with
    | true => cases hx rfl; exact .ro0
    | false => exact hy rfl
  · simp only [Option.some.injEq] at hz; subst hz
    refine ⟨?_, rfl⟩
    cases c with
    | true => exact hx rfl
    | false => cases hy rfl; exact .ro0
  · cases hz
theorem merge1_VR {C : Ctx} {c : Bool} {x y : AV} {v : Value} (hx : c = true → VR C x v) (hy : c = false → VR C y v) : VR C (merge1 c x y) v := by
  unfold merge1
  split
  · rename_i z hz; exact (mergeS_VR hz hx hy).1
  · split
    · cases c with
      | true => exact hx rfl
      | false => exact hy rfl
    · cases c with
      | true => exact hx rfl
      | false => exact hy rfl
    · split
      · rename_i e; obtain ⟨rfl, rfl⟩ := e
        cases c with
        | true => exact hx rfl
        | false => exact hy rfl
      · exact .poison _
    · split
      · rename_i e; obtain ⟨rfl, rfl⟩ := e
        cases c with
        | true => exact hx rfl
        | false => exact hy rfl
      · exact .poison _
    · exact merge0_VR hx hy

theorem mergeS_single {c : Bool} {x y z : AV} (hz : mergeS c x y = some z) : z.single = true := by
  unfold mergeS at hz
  split at hz <;> first | (simp only [Option.some.injEq] at hz; subst hz; rfl) | (split at hz <;> first | (simp only [Option.some.injEq] at hz; subst hz; rfl) | cases hz) | cases hz
theorem merge1_single (c : Bool) (x y : AV) : (merge1 c x y).single = true := by
  unfold merge1
  split
  · rename_i z hz; exact mergeS_single hz
  · split
    · rfl
    · rfl
    · split <;> rfl
    · split <;> rfl
    · exact merge0_single c x y

theorem mergeC_CR {C : Ctx} {c : Bool} {x y z : AV} {vs : List Value} (h : mergeC c x y = some z) (hx : c = true → CR C [x] vs) (hy : c = false → CR C [y] vs) : CR C [z] vs ∧ z.width = x.width ∧ z.width = y.width := by
  unfold mergeC at h
  split at h
  · rename_i n f m g
    split at h
    · rename_i e; subst e
      simp only [Option.some.injEq] at h; subst h
      refine ⟨?_, rfl, rfl⟩
      cases c with
      | true =>
        obtain ⟨gv, rfl, h0, h1, h2, h3⟩ := CR_ar (hx rfl)
        simpa using CR.ar h0 (fun j hj => merge0_VR (fun _ => h1 j hj) (fun e => by cases e)) h2 (fun j hj => merge0_flat ..) .nil
      | false =>
        obtain ⟨gv, rfl, h0, h1, h2, h3⟩ := CR_ar (hy rfl)
        simpa using CR.ar h0 (fun j hj => merge0_VR (fun e => by cases e) (fun _ => h1 j hj)) h2 (fun j hj => merge0_flat ..) .nil
    · simp at h
  · split at h
    · rename_i hs
      simp only [Option.some.injEq] at h; subst h
      simp only [Bool.and_eq_true] at hs
      have hz := merge1_single c x y
      have w1 : ∀ a : AV, a.single = true → a.width = 1 := fun a ha => by cases a <;> simp [AV.single] at ha <;> rfl
      refine ⟨?_, by rw [w1 _ hz, w1 _ hs.1], by rw [w1 _ hz, w1 _ hs.2]⟩
      cases c with
      | true =>
        obtain ⟨v, rfl, hv, ho⟩ := CR_one (hx rfl) hs.1
        exact .one hz ho (merge1_VR (fun _ => hv) (fun e => by cases e)) .nil
      | false =>
        obtain ⟨v, rfl, hv, ho⟩ := CR_one (hy rfl) hs.2
        exact .one hz ho (merge1_VR (fun e => by cases e) (fun _ => hv)) .nil
    · simp at h

theorem mergeCs_CR {C : Ctx} {c : Bool} : ∀ {xs ys zs : List AV} {vs : List Value}, mergeCs c xs ys = some zs → (c = true → CR C xs vs) → (c = false → CR C ys vs) → CR C zs vs
  | [], [], zs, vs, h, hx, hy => by
    simp [mergeCs] at h; subst h
    cases c with
    | true => exact hx rfl
    | false => exact hy rfl
  | x :: xs, y :: ys, zs, vs, h, hx, hy => by
    simp only [mergeCs] at h
    cases hz : mergeC c x y with
    | none => simp [hz] at h
    | some z =>
      cases hzs : mergeCs c xs ys with
      | none => simp [hz, hzs] at h
      | some zs' =>
        simp only [hz, hzs, Option.some.injEq] at h; subst h
        cases c with
        | true =>
          obtain ⟨v1, v2, rfl, h1, h2, _, _⟩ := CR_uncons (hx rfl)
          exact CR_cons (mergeC_CR hz (fun _ => h1) (fun e => by cases e)).1 (mergeCs_CR hzs (fun _ => h2) (fun e => by cases e))
        | false =>
          obtain ⟨v1, v2, rfl, h1, h2, _, _⟩ := CR_uncons (hy rfl)
          exact CR_cons (mergeC_CR hz (fun e => by cases e) (fun _ => h1)).1 (mergeCs_CR hzs (fun e => by cases e) (fun _ => h2))
  | [], _ :: _, _, _, h, _, _ => by simp [mergeCs] at h
  | _ :: _, [], _, _, h, _, _ => by simp [mergeCs] at h

theorem merge_VR {C : Ctx} {c : Bool} {x y : AV} {v : Value} (hx : c = true → VR C x v) (hy : c = false → VR C y v) : VR C (merge c x y) v := by
  unfold merge
  split
  · rename_i xs ys
    split
    · rename_i l hl
      cases c with
      | true => cases hx rfl with
        | agg h => exact .agg (mergeCs_CR hl (fun _ => h) (fun e => by cases e))
      | false => cases hy rfl with
        | agg h => exact .agg (mergeCs_CR hl (fun e => by cases e) (fun _ => h))
    · exact .poison _
  · exact .poison _
  · split
    · rename_i z hz
      unfold mergeC at hz
      split at hz
      · split at hz
        · cases c with
          | true => cases hx rfl
          | false => cases hy rfl
        · simp at hz
      · split at hz
        · simp only [Option.some.injEq] at hz; subst hz
          exact merge1_VR hx hy
        · simp at hz
    · exact .poison _

/-- In memory: what is told of a merged cell holds of the one that stands there. -/
theorem merge_CR {C : Ctx} {c : Bool} {x y : AV} {vs : List Value} (hx : c = true → CR C [x] vs) (hy : c = false → CR C [y] vs) (hw : x.width = y.width) : ∃ v1 v2, vs = v1 ++ v2 ∧ CR C [merge c x y] v1 ∧ (merge c x y).width ≤ x.width := by
  have base : CR C [if c = true then x else y] vs := by cases c with
    | true => exact hx rfl
    | false => exact hy rfl
  have pois : ∃ v1 v2, vs = v1 ++ v2 ∧ CR C [AV.poison] v1 ∧ AV.poison.width ≤ x.width := by
    obtain ⟨a, b, hab, h1, _, hl, hp⟩ := CR_uncons base
    have hxw : 0 < x.width := by cases c <;> simp_all
    have hone := CR_oneCell base
    cases vs with
    | nil => cases a <;> simp at hab; simp at hl; omega
    | cons v vs' => exact ⟨[v], vs', rfl, .one rfl (hone v (by simp)) (.poison _) .nil, hxw⟩
  unfold merge
  split
  · cases c with
    | true => cases hx rfl with
      | one ha _ _ _ => simp [AV.single] at ha
    | false => cases hy rfl with
      | one ha _ _ _ => simp [AV.single] at ha
  · exact pois
  · split
    · rename_i z hz
      obtain ⟨h1, h2, h3⟩ := mergeC_CR hz hx hy
      exact ⟨vs, [], by simp, h1, by omega⟩
    · exact pois

/-! ### What leads nowhere -/
theorem flat_VR {C C' : Ctx} {a : AV} {v : Value} (h : VR C a v) (hf : a.flat = true) : VR C' a v := by
  cases h <;> simp [AV.flat] at hf
  case poison => exact .poison _
  case i hk h => exact .i hk h
  case u hk => exact .u hk
  case b => exact .b _
  case str h => exact .str _ h
  case nilp => exact .nilp
  case nils => exact .nils
theorem flat_CR {C C' : Ctx} {l : List AV} {vs : List Value} (h : CR C l vs) (hf : l.all AV.flatC = true) : CR C' l vs := by
  match h with
  | .nil => exact .nil
  | .one (a := a) ha hv h hl =>
    simp only [List.all_cons, Bool.and_eq_true] at hf
    refine .one ha hv (flat_VR h ?_) (flat_CR hl hf.2)
    cases a <;> simp [AV.single] at ha <;> first | exact hf.1 | rfl
  | .ar h0 h h1 hf' hl =>
    simp only [List.all_cons, Bool.and_eq_true] at hf
    exact .ar h0 (fun j hj => flat_VR (h j hj) (hf' j hj)) h1 hf' (flat_CR hl hf.2)
theorem flatV_VR {C C' : Ctx} {a : AV} {v : Value} (h : VR C a v) (hf : a.flatV = true) : VR C' a v := by
  cases a with
  | agg l => cases h with
    | agg h => exact .agg (flat_CR h (by simpa [AV.flatV] using hf))
  | _ => exact flat_VR h hf
theorem flatV_TR {C C' : Ctx} {l : List AV} {vs : List Value} (h : TR C l vs) (hf : l.all AV.flatV = true) : TR C' l vs := by
  match h with
  | .nil => exact .nil
  | .cons h hl =>
    simp only [List.all_cons, Bool.and_eq_true] at hf
    exact .cons (flatV_VR h hf.1) (flatV_TR hl hf.2)
theorem flatR_VR {C C' : Ctx} {a : AV} {v : Value} (h : VR C a v) (hf : a.flatR = true) : VR C' a v := by
  cases a with
  | tup l => cases h with
    | tup h => exact .tup (flatV_TR h (by simpa [AV.flatR] using hf))
  | _ => exact flatV_VR h hf

end Go.Proofs.YtcdnbdphakhilaaGreatDoor.Ev
namespace Go.Proofs.YtcdnbdphakhilaaGreatDoor.Ev

def cellsAt (w : World) (b off : Nat) (vs : List Value) : Prop := ∀ j v, vs[j]? = some v → w.cell? ⟨b, off + j, none⟩ = some v

/-- A row of one's own: its elements in its block, if it has one; its newest header. -/
structure RowR (C : Ctx) (id e t : Nat) (xs : List (Dat t)) (ver : Nat) : Prop where
  row : C.row id
  top : ∀ v, C.hok id v → v ≤ ver
  ok : C.hok id ver
  at_ : (¬ C.liv id ∧ xs = [] ∧ C.hd id ver = .slice none 0 0) ∨
    (C.liv id ∧ ∃ cap cur, C.hd id ver = .slice (some ⟨C.ρ id, 0, none⟩) xs.length cap ∧ C.w.heap[C.ρ id]? = some (.cells cur e (0, 0)) ∧ (xs.length ≤ cap ∧ 0 < xs.length) ∧ cap ≤ maxLen ∧ cur.size = cap * datSize t ∧
      ∀ i, i < xs.length → CR C.bare (encAt t xs i) ((cur.toList.drop (i * datSize t)).take (datSize t))) ∨
    (e = fz ∧ ∃ b e0 cap cur, C.R b ∧ C.hd id ver = .slice (some ⟨b, 0, none⟩) xs.length cap ∧ C.w.heap[b]? = some (.cells cur e0 (0, 0)) ∧ (xs.length ≤ cap ∧ 0 < xs.length) ∧ cap ≤ maxLen ∧ cur.size = cap * datSize t ∧
      ∀ i, i < xs.length → CR C.bare (encAt t xs i) ((cur.toList.drop (i * datSize t)).take (datSize t)))
/-- An object without cells. -/
def SpecC (C : Ctx) (id off : Nat) : AV → Prop
  | .sit s pos => C.dom id ∧ off = 0 ∧ s.length ≤ 9223372036854775807 ∧ C.w.heap[C.ρ id]? = some (.stringIter ⟨s.toArray⟩ pos)
  | .row e t xs ver => off = 0 ∧ RowR C id e t xs ver
  | _ => C.has id
/-- As it was, at one place. -/
structure Ctx.SameAt (C C' : Ctx) (id : Nat) : Prop where
  dom : C'.dom id ↔ C.dom id
  liv : C'.liv id ↔ C.liv id
  row : C'.row id ↔ C.row id
  ρ : C.blk id → C'.ρ id = C.ρ id
  hok : ∀ v, C'.hok id v ↔ C.hok id v
  hd : ∀ v, C.hok id v → C'.hd id v = C.hd id v
  heap : C.blk id → C'.w.heap[C.ρ id]? = C.w.heap[C.ρ id]?
theorem SpecC.congr {C C' : Ctx} {id off : Nat} {a : AV} (h : SpecC C id off a) (hs : C.SameAt C' id) (hR : ∀ b, C.R b → C'.R b ∧ C'.w.heap[b]? = C.w.heap[b]?) : SpecC C' id off a := by
  have hh : C.has id → C'.has id := fun h => by rcases h with h | h; exact .inl (hs.dom.2 h); exact .inr (hs.row.2 h)
  cases a with
  | sit s pos =>
    obtain ⟨h1, h2, h3, h4⟩ := h
    refine ⟨hs.dom.2 h1, h2, h3, ?_⟩
    rw [hs.ρ (.inl h1), hs.heap (.inl h1)]
    exact h4
  | row e t xs ver =>
    obtain ⟨h1, h2⟩ := h
    refine ⟨h1, hs.row.2 h2.row, fun v hv => h2.top v ((hs.hok v).1 hv), (hs.hok ver).2 h2.ok, ?_⟩
    rcases h2.at_ with ⟨k1, k2, k3⟩ | ⟨k1, cap, cur, k2, k3, k4, k5, k6, k7⟩ | ⟨k0, b, e0, cap, cur, k1, k2, k3, k4, k5, k6, k7⟩
    · exact .inl ⟨fun h => k1 (hs.liv.1 h), k2, (hs.hd ver h2.ok).trans k3⟩
    · refine .inr (.inl ⟨hs.liv.2 k1, cap, cur, ?_, ?_, k4, k5, k6, fun i hi => CR.mono (C := C.bare) (C' := C'.bare) ⟨fun _ h => False.elim h, hR, fun _ _ h => False.elim h⟩ (k7 i hi)⟩)
      · rw [hs.hd ver h2.ok, hs.ρ (.inr k1)]; exact k2
      · rw [hs.ρ (.inr k1), hs.heap (.inr k1)]; exact k3
    · exact .inr (.inr ⟨k0, b, e0, cap, cur, (hR b k1).1, (hs.hd ver h2.ok).trans k2, (hR b k1).2.trans k3, k4, k5, k6, fun i hi => CR.mono (C := C.bare) (C' := C'.bare) ⟨fun _ h => False.elim h, hR, fun _ _ h => False.elim h⟩ (k7 i hi)⟩)
  | _ => exact hh h
theorem SpecC.has {C : Ctx} {id off : Nat} {a : AV} (h : SpecC C id off a) : C.has id := by
  cases a with
  | sit s pos => exact .inl h.1
  | row e t xs ver => exact .inr h.2.row
  | _ => exact h
theorem single_spec {a : AV} (h : a.single = true) : a.spec = false := by cases a <;> first | rfl | (simp [AV.single] at h)
theorem CR_spec {C : Ctx} {a : AV} {l : List AV} {vs : List Value} (h : CR C (a :: l) vs) : a.spec = false := by
  cases h with
  | one ha hv h hl => exact single_spec ha
  | ar h0 h h1 hf hl => rfl
structure MR (C : Ctx) (M : Key → Option AV) : Prop where
  at_ : ∀ id off a, M (id, off) = some a → a.spec = false → C.dom id ∧ ∃ vs, CR C [a] vs ∧ cellsAt C.w (C.ρ id) off vs
  sp : ∀ id off a, M (id, off) = some a → a.spec = true → SpecC C id off a
  apart : ∀ id o1 o2 a1 a2, M (id, o1) = some a1 → M (id, o2) = some a2 → o1 < o2 → o1 + a1.width ≤ o2

theorem MR.has {C : Ctx} {M : Key → Option AV} (h : MR C M) {id off : Nat} {a : AV} (hm : M (id, off) = some a) : C.has id := by
  cases hs : a.spec with
  | false => exact .inl (h.at_ id off a hm hs).1
  | true => exact (h.sp id off a hm hs).has
/-- How many cells a block has. -/
def objSize (w : World) (b : Nat) : Nat := match w.heap[b]? with
  | some (.cells cs _ _) => cs.size
  | _ => 0
structure Own (C : Ctx) : Prop where
  lt : ∀ id, C.blk id → C.ρ id < C.w.heap.size
  unfrozen : ∀ id, C.blk id → ∀ o, C.w.frozen? ⟨C.ρ id, o, none⟩ = false
  apart : ∀ id, C.blk id → ¬ C.R (C.ρ id)
  inj : ∀ a b, C.blk a → C.blk b → C.ρ a = C.ρ b → a = b
  R_lt : ∀ b, C.R b → b < C.w.heap.size
  sized : ∀ id, C.dom id → objSize C.w (C.ρ id) = C.sz id
  dis : ∀ id, C.dom id → ¬ C.row id
  liv : ∀ id, C.liv id → C.row id
  rsz : ∀ id, C.row id → C.sz id = 0
  hokr : ∀ id v, C.hok id v → C.row id

/-- What was there before is as it was, but for some blocks. -/
structure Fr (w0 : World) (E : Nat → Prop) (w : World) : Prop where
  os : w.os = w0.os
  tape : w.tape = w0.tape
  output : w.output = w0.output
  size : w0.heap.size ≤ w.heap.size
  block : ∀ b, b < w0.heap.size → ¬ E b → w.heap[b]? = w0.heap[b]?

/-- Which blocks may be changed; which objects stay where they are, and how large. -/
structure Ent where
  mem : Nat → Prop
  K : Nat → Nat → Nat → Prop
  B : Nat → Nat → Prop
  hB : ∀ id b, B id b → big ≤ id
instance : CoeFun Ent (fun _ => Nat → Prop) := ⟨Ent.mem⟩
def Ent.no : Ent := ⟨fun _ => False, fun _ _ _ => False, fun _ _ => False, fun _ _ h => h.elim⟩

/-- What is known of the program's own variables: it stays true as long as what is read alone stands. -/
class Glob where
  G : World → (Nat → Prop) → Prop
  mono : ∀ {w : World} {R : Nat → Prop} {w' : World} {R' : Nat → Prop}, G w R → (∀ b, R b → R' b ∧ w'.heap[b]? = w.heap[b]?) → G w' R'
/-- Nothing. -/
@[reducible] def Glob.triv : Glob := ⟨fun _ _ => True, fun h _ => h⟩

structure SR [Glob] (w0 : World) (E : Ent) (R0 : Nat → Prop) (M : Key → Option AV) (C : Ctx) : Prop where
  mr : MR C M
  own : Own C
  fr : Fr w0 E.mem C.w
  mine : ∀ id, C.blk id → w0.heap.size ≤ C.ρ id ∨ E (C.ρ id)
  rr : (∀ b, R0 b → C.R b) ∧ ∀ b, C.R b → R0 b ∨ w0.heap.size ≤ b
  keep : ∀ id b n, E.K id b n → C.dom id → C.ρ id = b ∧ C.sz id = n
  gl : Glob.G C.w C.R
  rown : ∀ id, C.liv id → w0.heap.size ≤ C.ρ id ∨ E.B id (C.ρ id)
theorem SR.rnew [Glob] {w0 : World} {E : Ent} {R0 : Nat → Prop} {M : Key → Option AV} {C : Ctx} (h : SR w0 E R0 M C) {id : Nat} (hl : C.liv id) (hb : id < big) : w0.heap.size ≤ C.ρ id :=
  (h.rown id hl).resolve_right fun e => absurd (E.hB _ _ e) (Nat.not_le.2 hb)

theorem cellsAt_app {w : World} {b off : Nat} {v1 v2 : List Value} (h1 : cellsAt w b off v1) (h2 : cellsAt w b (off + v1.length) v2) : cellsAt w b off (v1 ++ v2) := by
  intro j v hj
  rcases Nat.lt_or_ge j v1.length with h | h
  · rw [List.getElem?_append_left h] at hj; exact h1 j v hj
  · rw [List.getElem?_append_right h] at hj
    have := h2 _ _ hj
    rwa [show off + v1.length + (j - v1.length) = off + j by omega] at this

theorem cellsAt_nil (w : World) (b off : Nat) : cellsAt w b off [] := by intro j v h; simp at h

theorem readC_run {C : Ctx} {M : Key → Option AV} (hM : MR C M) {id : Nat} : ∀ {fuel off n : Nat} {l : List AV}, n ≤ fuel → readC M id fuel off n = some l → ∃ vs, CR C l vs ∧ vs.length = n ∧ cellsAt C.w (C.ρ id) off vs
  | 0, off, n, l, hf, h => by
    simp [readC] at h; subst h
    exact ⟨[], .nil, by simp; omega, cellsAt_nil _ _ _⟩
  | fuel + 1, off, 0, l, hf, h => by
    simp [readC] at h; subst h
    exact ⟨[], .nil, rfl, cellsAt_nil _ _ _⟩
  | fuel + 1, off, n + 1, l, hf, h => by
    simp only [readC] at h
    cases hm : M (id, off) with
    | none => simp [hm] at h
    | some x =>
      simp only [hm] at h
      cases hb : Nat.ble x.width (n + 1) && !x.spec with
      | false => simp [hb] at h
      | true =>
        simp only [hb] at h
        simp only [Bool.and_eq_true, Bool.not_eq_true'] at hb
        obtain ⟨hb, hsp⟩ := hb
        have hle := Nat.le_of_ble_eq_true hb
        cases hr : readC M id fuel (off + x.width) (n + 1 - x.width) with
        | none => simp [hr] at h
        | some l' =>
          simp only [hr, Option.some.injEq] at h; subst h
          obtain ⟨hd, vs, hx, hc⟩ := hM.at_ id off x hm hsp
          obtain ⟨a, b, hab, h1, h2, hw, hpos⟩ := CR_uncons hx
          have hvl : vs.length = x.width := by have := CR_length hx; simpa [widthC] using this
          obtain ⟨vs', hl', hlen', hc'⟩ := readC_run hM (by omega) hr
          exact ⟨vs ++ vs', CR_cons hx hl', by simp; omega, cellsAt_app hc (by rw [hvl]; exact hc')⟩

section
variable {P : Program} {C : Ctx} {w : World}

theorem run_isAgg {t : TypeId} {d : TyI} (h : TyOk1 P t d) : (isAgg t).run P w = .ok (isAggD d.desc) w := by
  obtain ⟨D, h1, h2⟩ := h.und
  simp only [isAgg, Sem.run_bind, run_underlying h1, Result.andThen_ok]
  rw [← h2]
  cases D <;> rfl

theorem run_sizeOf {t : TypeId} {d : TyI} (h : TyOk1 P t d) : (sizeOf t).run P w = .ok d.size w := by
  obtain ⟨i, h1, h2, _⟩ := h.info
  simp [sizeOf, typeInfo, h1, h2]

theorem run_zeroValue {t : TypeId} {d : TyI} (h : TyOk1 P t d) : ∃ z, (zeroValue t).run P w = .ok z w ∧ ∀ C, CR C d.zero z.cells.toList := by
  obtain ⟨i, h1, h2, z, h3, h4⟩ := h.info
  exact ⟨z, by simp [zeroValue, typeInfo, h1, h3], h4⟩

theorem addr_add (b o n : Nat) : (⟨b, o, none⟩ : Addr).add n = ⟨b, o + n, none⟩ := by unfold Addr.add; split <;> simp_all

theorem loadVar_agg {t : TypeId} {d : TyI} (h : TyOk1 P t d) (ha : isAggD d.desc = true) {b o : Nat} {vs : List Value} (hc : cellsAt w b o vs) (hl : vs.length = d.size) :
    (loadVar t ⟨b, o, none⟩).run P w = .ok (.agg vs.toArray) w := by
  simp only [loadVar, Sem.run_bind, run_isAgg h, Result.andThen_ok, ha, if_true, run_sizeOf h]
  rw [← hl]
  have := run_loadCells_list (P := P) w ⟨b, o, none⟩ vs (fun j v hj => by rw [addr_add]; exact hc j v hj)
  simp only [this, Result.andThen_ok]
  rfl

theorem loadVar_one {t : TypeId} {d : TyI} (h : TyOk1 P t d) (ha : isAggD d.desc = false) {b o : Nat} {v : Value} (hc : w.cell? ⟨b, o, none⟩ = some v) :
    (loadVar t ⟨b, o, none⟩).run P w = .ok v w := by
  simp only [loadVar, Sem.run_bind, run_isAgg h, Result.andThen_ok, ha]
  simp [run_load, hc]

theorem partC_run {d : TyI} {l : List AV} {off : Nat} {a : AV} (h : partC d l off = some a) {vs : List Value} (hl : CR C l vs) :
    (isAggD d.desc = true → ∃ ws, ws = (vs.drop off).take d.size ∧ ws.length = d.size ∧ VR C a (.agg ws.toArray) ∧ off + d.size ≤ vs.length) ∧
    (isAggD d.desc = false → ∃ v, vs[off]? = some v ∧ VR C a v ∧ v.oneCell' = true) := by
  unfold partC at h
  cases hs : splitC l off with
  | none => simp [hs] at h
  | some r =>
    obtain ⟨p, q⟩ := r
    simp only [hs] at h
    obtain ⟨h1, h2, h3⟩ := splitC_CR hs hl
    cases ha : isAggD d.desc with
    | true =>
      simp only [ha] at h
      cases hs2 : splitC q d.size with
      | none => simp [hs2] at h
      | some r2 =>
        obtain ⟨p2, q2⟩ := r2
        simp only [hs2, Option.some.injEq] at h; subst h
        obtain ⟨k1, k2, k3⟩ := splitC_CR hs2 h2
        have hlen : ((vs.drop off).take d.size).length = d.size := by rw [CR_length k1, k3]
        refine ⟨fun _ => ⟨_, rfl, hlen, .agg k1, ?_⟩, fun e => by cases e⟩
        have hp := CR_length h1
        rw [h3] at hp
        simp at hp hlen
        omega
    | false =>
      simp only [ha] at h
      cases q with
      | nil => simp at h
      | cons x q =>
        simp only at h
        cases hx : x.single with
        | false => simp [hx] at h
        | true =>
          simp only [hx, Option.some.injEq] at h; subst h
          obtain ⟨v1, v2, hv, k1, k2, k3, k4⟩ := CR_uncons h2
          obtain ⟨v, rfl, k5, k6⟩ := CR_one k1 hx
          refine ⟨(fun e => by cases e), fun _ => ⟨v, ?_, k5, k6⟩⟩
          have : (vs.drop off)[0]? = some v := by rw [hv]; rfl
          simpa using this

theorem evLoad_run {T : TypeId → Option TyI} (hT : TyOk P T) {M : Key → Option AV} (hM : MR C M) {t : TypeId} {p : AV} {V : Value} {r : OpR} (h : evLoad T M t p = some r) (hp : VR C p V) :
    (∃ v, (Instr.loadAt t V).run P C.w = .ok v C.w ∧ VR C r.v v) ∧ r.pre = [] ∧ r.wr = [] ∧ r.al = [] := by
  unfold evLoad at h
  cases ht : T t with
  | none => simp [ht] at h
  | some d =>
    simp only [ht] at h
    have ok := hT t d ht
    cases hp with
    | ptr off hd =>
      simp only at h
      cases ha : isAggD d.desc with
      | true =>
        simp only [ha] at h
        split at h
        · rename_i l hl
          simp only [Option.some.injEq] at h; subst h
          obtain ⟨vs, h1, h2, h3⟩ := readC_run hM (Nat.le_refl _) hl
          refine ⟨⟨.agg vs.toArray, ?_, .agg h1⟩, rfl, rfl, rfl⟩
          simp only [Instr.loadAt, Instr.sureAddr, Sem.run_bind, Sem.run_pure, Result.andThen_ok]
          exact loadVar_agg ok ha h3 h2
        · simp at h
      | false =>
        simp only [ha] at h
        split at h
        · rename_i v hv
          split at h
          · rename_i hs
            simp only [Option.some.injEq] at h; subst h
            obtain ⟨_, vs, h1, h2⟩ := hM.at_ _ _ _ hv (single_spec hs)
            obtain ⟨v', rfl, h3, h4⟩ := CR_one h1 hs
            refine ⟨⟨v', ?_, h3⟩, rfl, rfl, rfl⟩
            simp only [Instr.loadAt, Instr.sureAddr, Sem.run_bind, Sem.run_pure, Result.andThen_ok]
            exact loadVar_one ok ha (by simpa using h2 0 v' rfl)
          · simp at h
        · simp at h
    | px off n hd hi =>
      rename_i id i
      simp only at h
      split at h
      · rename_i n' f hf
        split at h
        · rename_i hn
          simp only [Option.some.injEq] at h; subst h
          simp only [Bool.and_eq_true, beq_iff_eq, Bool.not_eq_true'] at hn
          obtain ⟨rfl, ha⟩ := hn
          obtain ⟨_, vs, h1, h2⟩ := hM.at_ _ _ _ hf rfl
          obtain ⟨g, rfl, h0, h3, h4, _⟩ := CR_ar h1
          have hcell : C.w.cell? ⟨C.ρ id, off + i, none⟩ = some (g i) := h2 i (g i) (by simp [hi])
          refine ⟨⟨g i, ?_, (h3 i hi).mono C.bare_le⟩, rfl, rfl, rfl⟩
          simp only [Instr.loadAt, Instr.sureAddr, Sem.run_bind, Sem.run_pure, Result.andThen_ok]
          exact loadVar_one ok ha hcell
        · simp at h
      · simp at h
    | @rp _ l off b o vs hb hl hc =>
      simp only at h
      split at h
      · rename_i v hv
        simp only [val, Option.some.injEq] at h; subst h
        refine ⟨?_, rfl, rfl, rfl⟩
        obtain ⟨k1, k2⟩ := partC_run hv hl
        simp only [Instr.loadAt, Instr.sureAddr, Sem.run_bind, Sem.run_pure, Result.andThen_ok]
        cases ha : isAggD d.desc with
        | true =>
          obtain ⟨ws, rfl, e2, e3, e4⟩ := k1 ha
          refine ⟨_, loadVar_agg ok ha ?_ e2, e3.mono C.bare_le⟩
          intro j u hj
          have hj' : j < d.size := by
            rcases Nat.lt_or_ge j d.size with h | h
            · exact h
            · rw [List.getElem?_eq_none (by omega)] at hj; cases hj
          rw [List.getElem?_take_of_lt hj', List.getElem?_drop] at hj
          have := hc (off + j) (by omega)
          rw [hj] at this
          rwa [show o + off + j = o + (off + j) by omega]
        | false =>
          obtain ⟨u, e1, e2, e3⟩ := k2 ha
          refine ⟨u, loadVar_one ok ha ?_, e2.mono C.bare_le⟩
          have hlt : off < vs.length := by
            rcases Nat.lt_or_ge off vs.length with h | h
            · exact h
            · rw [List.getElem?_eq_none h] at e1; cases e1
          rw [hc off hlt]; exact e1
      · simp at h
    | _ => simp at h

end
end Go.Proofs.YtcdnbdphakhilaaGreatDoor.Ev
namespace Go.Proofs.YtcdnbdphakhilaaGreatDoor.Ev

theorem CR_split {C : Ctx} : ∀ {p q : List AV} {vs : List Value}, CR C (p ++ q) vs → ∃ v1 v2, vs = v1 ++ v2 ∧ CR C p v1 ∧ CR C q v2
  | [], q, vs, h => ⟨[], vs, rfl, .nil, h⟩
  | x :: p, q, vs, h => by
    obtain ⟨v1, v2, rfl, h1, h2, _, _⟩ := CR_uncons h
    obtain ⟨v3, v4, rfl, h3, h4⟩ := CR_split h2
    exact ⟨v1 ++ v3, v4, by simp, CR_cons h1 h3, h4⟩

theorem setCells_app (w : World) (b : Nat) : ∀ (v1 : List Value) (off : Nat) (v2 : List Value) (w : World), w.setCells b off (v1 ++ v2) = (w.setCells b off v1).setCells b (off + v1.length) v2
  | [], off, v2, w => by simp [World.setCells]
  | v :: v1, off, v2, w => by
    simp only [List.cons_append, World.setCells, List.length_cons]
    rw [setCells_app w b v1]
    congr 1
    omega

theorem size_setCells (b : Nat) : ∀ (vs : List Value) (o : Nat) (w : World), (w.setCells b o vs).heap.size = w.heap.size
  | [], _, _ => rfl
  | v :: r, o, w => by rw [World.setCells, size_setCells b r]; simp
theorem tape_setCells (b : Nat) : ∀ (vs : List Value) (o : Nat) (w : World), (w.setCells b o vs).tape = w.tape
  | [], _, _ => rfl
  | v :: r, o, w => by rw [World.setCells, tape_setCells b r]; simp
theorem heap_setCells (b : Nat) : ∀ (vs : List Value) (o : Nat) (w : World) (k : Nat), k ≠ b → (w.setCells b o vs).heap[k]? = w.heap[k]?
  | [], _, _, _, _ => rfl
  | v :: r, o, w, k, h => by rw [World.setCells, heap_setCells b r _ _ _ h]; exact RowKit.Below.heap_setCell _ _ _ _ h

theorem objSize_of {w w' : World} {b : Nat} (h : w'.heap[b]? = w.heap[b]?) : objSize w' b = objSize w b := by unfold objSize; rw [h]
theorem objSize_setCell (w : World) (a : Addr) (v : Value) (b : Nat) : objSize (w.setCell a v) b = objSize w b := by
  unfold objSize
  simp only [World.setCell, Array.getElem?_modify]
  by_cases h : a.block = b
  · subst h
    simp only [if_true]
    cases w.heap[a.block]? with
    | none => rfl
    | some o => cases o <;> simp <;> split <;> simp
  · simp only [h, if_false]
theorem objSize_setCells (b : Nat) : ∀ (vs : List Value) (o : Nat) (w : World) (k : Nat), objSize (w.setCells b o vs) k = objSize w k
  | [], _, _, _ => rfl
  | v :: r, o, w, k => by rw [World.setCells, objSize_setCells b r, objSize_setCell]
def updK (M : Key → Option AV) (ks : List (Key × AV)) (k : Key) : Option AV := match look ks k with
  | some x => some x
  | none => M k

theorem updK_nil (M : Key → Option AV) : updK M [] = M := rfl
theorem updK_cons (M : Key → Option AV) (k : Key) (x : AV) (acc : List (Key × AV)) (k' : Key) : updK M ((k, x) :: acc) k' = if k = k' then some x else updK M acc k' := by
  unfold updK
  by_cases h : k = k'
  · subst h
    have : (k == k) = true := by simp
    simp [look, this]
  · have : (k == k') = false := by simpa using h
    simp [look, this, h]
theorem look_app (a b : List (Key × AV)) (k : Key) : look (a ++ b) k = updK (look b) a k := by
  unfold updK
  induction a with
  | nil => rfl
  | cons x a ih =>
    obtain ⟨k', v⟩ := x
    simp only [List.cons_append, look]
    cases (k' == k)
    · exact ih
    · rfl

theorem cell_notIter {w : World} {b o : Nat} {v : Value} (h : w.cell? ⟨b, o, none⟩ = some v) (s : ByteArray) (p : Nat) : w.heap[b]? ≠ some (.stringIter s p) := by
  intro e
  unfold World.cell? at h
  rw [e] at h
  cases h
theorem or_swap3 {a e l : Prop} (h : (a ∨ e) ∨ l) : (a ∨ l) ∨ e := by
  rcases h with (h | h) | h
  · exact .inl (.inl h)
  · exact .inr h
  · exact .inl (.inr h)
/-- One chunk of an own object written, the world told by what it holds. -/
theorem SR_world [Glob] {w0 : World} {E : Ent} {R0 : Nat → Prop} {M : Key → Option AV} {C : Ctx} (h : SR w0 E R0 M C) {id off : Nat} {x y : AV} {vs : List Value} (hm : M (id, off) = some y) (hsy : y.spec = false) (hw : y.width = x.width) (hx : CR C [x] vs)
    (w' : World) (hsz : w'.heap.size = C.w.heap.size) (hoth : ∀ b, b ≠ C.ρ id → w'.heap[b]? = C.w.heap[b]?) (hin : cellsAt w' (C.ρ id) off vs)
    (hout : ∀ o, o < off ∨ off + vs.length ≤ o → w'.cell? ⟨C.ρ id, o, none⟩ = C.w.cell? ⟨C.ρ id, o, none⟩) (hfro : ∀ o, w'.frozen? ⟨C.ρ id, o, none⟩ = false) (hos : w'.os = C.w.os) (hta : w'.tape = C.w.tape) (hou : w'.output = C.w.output) (hob : ∀ b, objSize w' b = objSize C.w b) :
    ∃ C' : Ctx, C'.w = w' ∧ C.Le C' ∧ C'.dom = C.dom ∧ C'.ρ = C.ρ ∧ (C'.R = C.R ∧ C'.sz = C.sz ∧ C'.row = C.row) ∧ SR w0 E R0 (fun k => if (id, off) = k then some x else M k) C' := by
  obtain ⟨hd, ys, hy, hyc⟩ := h.mr.at_ id off y hm hsy
  have hlx : vs.length = x.width := by have := CR_length hx; simpa [widthC] using this
  have hly : ys.length = y.width := by have := CR_length hy; simpa [widthC] using this
  have hle : C.Le { C with w := w' } :=
    ⟨fun i hi => ⟨hi, rfl⟩, fun b hb => ⟨hb, hoth _ (fun e => h.own.apart id (.inl hd) (e ▸ hb))⟩, fun _ _ h => ⟨h, rfl⟩⟩
  have hcell : ∀ id' o, C.dom id' → (id' = id → o < off ∨ off + vs.length ≤ o) → w'.cell? ⟨C.ρ id', o, none⟩ = C.w.cell? ⟨C.ρ id', o, none⟩ := by
    intro id' o hd' hio
    by_cases e : id' = id
    · subst e; exact hout o (hio rfl)
    · exact cell_of_block (hoth _ (fun e' => e (h.own.inj _ _ (.inl hd') (.inl hd) e'))) _ _
  refine ⟨{ C with w := w' }, rfl, hle, rfl, rfl, ⟨rfl, rfl, rfl⟩, ⟨⟨?_, ?_, ?_⟩, ⟨?_, ?_, ?_, ?_, ?_, fun i hi => (hob _).trans (h.own.sized i hi), h.own.dis, h.own.liv, h.own.rsz, h.own.hokr⟩, ⟨?_, ?_, ?_, ?_, ?_⟩, h.mine, h.rr, h.keep, Glob.mono h.gl hle.R, h.rown⟩⟩
  · intro id' o' a ha hsa
    try simp only at ha
    split at ha
    · rename_i e
      simp only [Prod.mk.injEq] at e
      obtain ⟨rfl, rfl⟩ := e
      simp only [Option.some.injEq] at ha; subst ha
      exact ⟨hd, vs, hx.mono hle, hin⟩
    · rename_i hne
      obtain ⟨hd', us, hu, huc⟩ := h.mr.at_ id' o' a ha hsa
      have hlu : us.length = a.width := by have := CR_length hu; simpa [widthC] using this
      refine ⟨hd', us, hu.mono hle, ?_⟩
      intro j v hj
      have hjl : j < us.length := by
        rcases Nat.lt_or_ge j us.length with h | h
        · exact h
        · rw [List.getElem?_eq_none h] at hj; cases hj
      show w'.cell? ⟨C.ρ id', o' + j, none⟩ = _
      rw [hcell id' (o' + j) hd' (fun hid => ?_)]
      · exact huc j v hj
      · subst hid
        have hoo : o' ≠ off := fun e => hne (by rw [e])
        rcases Nat.lt_or_gt_of_ne hoo with hlt | hgt
        · have := h.mr.apart _ _ _ _ _ ha hm hlt
          left; omega
        · have := h.mr.apart _ _ _ _ _ hm ha hgt
          right; omega
  · intro id' o' a ha hsa
    try simp only at ha
    split at ha
    · simp only [Option.some.injEq] at ha; subst ha
      rw [CR_spec hx] at hsa; cases hsa
    · have hsp := h.mr.sp id' o' a ha hsa
      by_cases e : id' = id
      · subst e
        have hpos : 0 < ys.length := by rw [hly]; obtain ⟨_, _, _, _, _, _, hpos⟩ := CR_uncons hy; exact hpos
        cases a <;> first | exact hsp | exact (h.own.dis _ hd hsp.2.row).elim | exact (cell_notIter (hyc 0 ys[0] (by simp [hpos])) _ _ hsp.2.2.2).elim
      · exact hsp.congr ⟨.rfl, .rfl, .rfl, fun _ => rfl, fun _ => .rfl, fun _ _ => rfl, fun hb => hoth _ (fun e' => e (h.own.inj _ _ hb (.inl hd) e'))⟩ hle.R
  · intro id' o1 o2 a1 a2 h1 h2 hlt
    try simp only at h1 h2
    split at h1
    · rename_i e
      simp only [Prod.mk.injEq] at e
      obtain ⟨rfl, rfl⟩ := e
      simp only [Option.some.injEq] at h1; subst h1
      split at h2
      · rename_i e; simp only [Prod.mk.injEq] at e; omega
      · rw [← hw]; exact h.mr.apart _ _ _ _ _ hm h2 hlt
    · split at h2
      · rename_i e
        simp only [Prod.mk.injEq] at e
        obtain ⟨rfl, rfl⟩ := e
        exact h.mr.apart _ _ _ _ _ h1 hm hlt
      · exact h.mr.apart _ _ _ _ _ h1 h2 hlt
  · intro i hi; show C.ρ i < w'.heap.size; rw [hsz]; exact h.own.lt i hi
  · intro i hi o
    show w'.frozen? ⟨C.ρ i, o, none⟩ = false
    by_cases e : i = id
    · subst e; exact hfro o
    · have := h.own.unfrozen i hi o
      unfold World.frozen? at this ⊢
      rw [hoth _ (fun e' => e (h.own.inj _ _ hi (.inl hd) e'))]; exact this
  · exact h.own.apart
  · exact h.own.inj
  · intro b hb; show b < w'.heap.size; rw [hsz]; exact h.own.R_lt b hb
  · exact hos.trans h.fr.os
  · exact hta.trans h.fr.tape
  · exact hou.trans h.fr.output
  · show _ ≤ w'.heap.size; rw [hsz]; exact h.fr.size
  · intro b hb hE
    show w'.heap[b]? = _
    rw [hoth _ (fun e => ?_)]
    · exact h.fr.block b hb hE
    · rcases h.mine id (.inl hd) with h1 | h1
      · omega
      · exact hE (e ▸ h1)

theorem lt_of_getElem? {l : List Value} {j : Nat} {v : Value} (h : l[j]? = some v) : j < l.length := by
  rcases Nat.lt_or_ge j l.length with h' | h'
  · exact h'
  · rw [List.getElem?_eq_none h'] at h; cases h

theorem SR_set [Glob] {w0 : World} {E : Ent} {R0 : Nat → Prop} {M : Key → Option AV} {C : Ctx} (h : SR w0 E R0 M C) {id off : Nat} {x y : AV} {vs : List Value} (hm : M (id, off) = some y) (hsy : y.spec = false) (hw : y.width = x.width) (hx : CR C [x] vs) :
    ∃ C' : Ctx, C'.w = C.w.setCells (C.ρ id) off vs ∧ C.Le C' ∧ C'.dom = C.dom ∧ C'.ρ = C.ρ ∧ (C'.R = C.R ∧ C'.sz = C.sz ∧ C'.row = C.row) ∧ SR w0 E R0 (fun k => if (id, off) = k then some x else M k) C' := by
  obtain ⟨hd, ys, hy, hyc⟩ := h.mr.at_ id off y hm hsy
  have hlx : vs.length = x.width := by have := CR_length hx; simpa [widthC] using this
  have hly : ys.length = y.width := by have := CR_length hy; simpa [widthC] using this
  refine SR_world h hm hsy hw hx _ (size_setCells _ _ _ _) (fun b hb => heap_setCells _ _ _ _ _ hb) ?_ ?_ (fun o => by rw [World.frozen?_setCells]; exact h.own.unfrozen id (.inl hd) o) (World.os_setCells _ _ _ _) (tape_setCells _ _ _ _) (World.output_setCells _ _ _ _) (objSize_setCells _ _ _ _)
  · intro j v hj
    have hjl := lt_of_getElem? hj
    rw [World.cell?_setCells_in (C.ρ id) vs off C.w (fun i hi => by
      have : i < ys.length := by omega
      rw [hyc i ys[i] (by simp [this])]; rfl) j hjl]
    rw [List.getElem?_eq_getElem hjl] at hj
    exact hj
  · intro o ho
    exact World.cell?_setCells_out _ _ _ _ _ (fun _ _ => ho)

/-- One cell of a chunk written. -/
theorem SR_cell [Glob] {w0 : World} {E : Ent} {R0 : Nat → Prop} {M : Key → Option AV} {C : Ctx} (h : SR w0 E R0 M C) {id off i : Nat} {x y : AV} {us : List Value} {V : Value} (hm : M (id, off) = some y) (hsy : y.spec = false) (hw : y.width = x.width)
    (hu : cellsAt C.w (C.ρ id) off us) (hi : i < us.length) (hul : us.length = y.width) (hx : CR C [x] (us.set i V)) :
    ∃ C' : Ctx, C'.w = C.w.setCells (C.ρ id) (off + i) [V] ∧ C.Le C' ∧ C'.dom = C.dom ∧ C'.ρ = C.ρ ∧ (C'.R = C.R ∧ C'.sz = C.sz ∧ C'.row = C.row) ∧ SR w0 E R0 (fun k => if (id, off) = k then some x else M k) C' := by
  obtain ⟨hd, ys, hy, hyc⟩ := h.mr.at_ id off y hm hsy
  refine SR_world h hm hsy hw hx _ (size_setCells _ _ _ _) (fun b hb => heap_setCells _ _ _ _ _ hb) ?_ ?_ (fun o => by rw [World.frozen?_setCells]; exact h.own.unfrozen id (.inl hd) o) (World.os_setCells _ _ _ _) (tape_setCells _ _ _ _) (World.output_setCells _ _ _ _) (objSize_setCells _ _ _ _)
  · intro j v hj
    have hjl := lt_of_getElem? hj
    simp only [List.length_set] at hjl
    by_cases e : j = i
    · subst e
      rw [List.getElem?_set_self hi] at hj
      have := World.cell?_setCells_in (C.ρ id) [V] (off + j) C.w (fun k hk => by
        have : k = 0 := by simpa using hk
        subst this
        rw [Nat.add_zero, hu j us[j] (by simp [hi])]; rfl) 0 (by simp)
      simpa [← hj] using this
    · rw [List.getElem?_set_ne (Ne.symm e)] at hj
      rw [World.cell?_setCells_out _ _ _ _ _ (fun _ _ => by
        show off + j < off + i ∨ off + i + [V].length ≤ off + j
        simp only [List.length_singleton]; omega)]
      exact hu j v hj
  · intro o ho
    refine World.cell?_setCells_out _ _ _ _ _ (fun _ _ => ?_)
    simp only [List.length_set] at ho
    show o < off + i ∨ off + i + [V].length ≤ o
    simp only [List.length_singleton]; omega

theorem fitsW_congr {M M' : Key → Option AV} (h : ∀ k, (M k).map (fun a => (a.width, a.spec)) = (M' k).map (fun a => (a.width, a.spec))) (id : Nat) : ∀ (l : List AV) (off : Nat), fitsW M id off l = fitsW M' id off l
  | [], _ => rfl
  | x :: l, off => by
    have hk := h (id, off)
    simp only [fitsW]
    cases h1 : M (id, off) <;> cases h2 : M' (id, off) <;> simp [h1, h2] at hk ⊢
    rw [hk.1, hk.2, fitsW_congr h id l]

theorem fitsW_cells {w0 : World} {C : Ctx} {M : Key → Option AV} (hM : MR C M) {id : Nat} : ∀ {l : List AV} {off : Nat} {vs : List Value}, fitsW M id off l = true → CR C l vs → ∀ j, j < vs.length → (C.w.cell? ⟨C.ρ id, off + j, none⟩).isSome = true
  | [], off, vs, h, hl, j, hj => by cases hl; simp at hj
  | x :: l, off, vs, h, hl, j, hj => by
    simp only [fitsW] at h
    split at h
    · rename_i y hy
      simp only [Bool.and_eq_true, beq_iff_eq, Bool.not_eq_true'] at h
      obtain ⟨⟨hw, hsy⟩, h⟩ := h
      obtain ⟨v1, v2, rfl, h1, h2, h3, h4⟩ := CR_uncons hl
      obtain ⟨hd, ys, hy1, hy2⟩ := hM.at_ _ _ _ hy hsy
      have hly : ys.length = y.width := by have := CR_length hy1; simpa [widthC] using this
      rcases Nat.lt_or_ge j v1.length with hlt | hge
      · have : j < ys.length := by omega
        rw [hy2 j ys[j] (by simp [this])]; rfl
      · have := fitsW_cells (w0 := w0) hM h h2 (j - v1.length) (by simp at hj; omega)
        rwa [show off + x.width + (j - v1.length) = off + j by omega] at this
    · cases h

theorem SR_keys [Glob] {w0 : World} {E : Ent} {R0 : Nat → Prop} {M : Key → Option AV} {id : Nat} : ∀ {l : List AV} {off : Nat} {acc : List (Key × AV)} {C : Ctx} {vs : List Value}, SR w0 E R0 (updK M acc) C → fitsW (updK M acc) id off l = true → CR C l vs →
    ∃ C' : Ctx, C'.w = C.w.setCells (C.ρ id) off vs ∧ C.Le C' ∧ C'.dom = C.dom ∧ C'.ρ = C.ρ ∧ (C'.R = C.R ∧ C'.sz = C.sz ∧ C'.row = C.row) ∧ SR w0 E R0 (updK M (keysAcc id off l acc)) C'
  | [], off, acc, C, vs, h, hf, hl => by
    cases hl
    exact ⟨C, rfl, .refl C, rfl, rfl, ⟨rfl, rfl, rfl⟩, h⟩
  | x :: l, off, acc, C, vs, h, hf, hl => by
    simp only [fitsW] at hf
    split at hf
    · rename_i y hy
      simp only [Bool.and_eq_true, beq_iff_eq, Bool.not_eq_true'] at hf
      obtain ⟨⟨hw, hsy⟩, hf⟩ := hf
      obtain ⟨v1, v2, rfl, h1, h2, h3, h4⟩ := CR_uncons hl
      obtain ⟨C1, e1, e2, e3, e4, e5, e6⟩ := SR_set h hy hsy hw h1
      have hM : (fun k => if (id, off) = k then some x else updK M acc k) = updK M (((id, off), x) :: acc) := by funext k; rw [updK_cons]
      rw [hM] at e6
      have hf' : fitsW (updK M (((id, off), x) :: acc)) id (off + x.width) l = true := by
        rw [← hf]
        apply fitsW_congr
        intro k
        rw [updK_cons]
        split
        · rename_i e; subst e; simp [hy, hw, hsy, CR_spec h1]
        · rfl
      obtain ⟨C2, f1, f2, f3, f4, f5, f6⟩ := SR_keys e6 hf' (h2.mono e2)
      refine ⟨C2, ?_, e2.trans f2, f3.trans e3, f4.trans e4, ⟨f5.1.trans e5.1, f5.2.1.trans e5.2.1, f5.2.2.trans e5.2.2⟩, f6⟩
      rw [f1, e1, e4, setCells_app C.w, h3]
    · cases hf

theorem look_keysAcc {id : Nat} {k : Key} {a : AV} : ∀ {l : List AV} {off : Nat} {acc : List (Key × AV)}, look (keysAcc id off l acc) k = some a → (∃ p q, l = p ++ a :: q ∧ k = (id, off + widthC p)) ∨ look acc k = some a
  | [], off, acc, h => .inr h
  | x :: l, off, acc, h => by
    simp only [keysAcc] at h
    rcases look_keysAcc h with ⟨p, q, rfl, rfl⟩ | h'
    · exact .inl ⟨x :: p, q, rfl, by simp [widthC]; omega⟩
    · simp only [look] at h'
      cases he : ((id, off) == k) with
      | true =>
        simp only [he, Option.some.injEq] at h'; subst h'
        exact .inl ⟨[], l, rfl, by simp at he; simp [widthC, he]⟩
      | false => simp only [he] at h'; exact .inr h'

theorem widthC_app (p q : List AV) : widthC (p ++ q) = widthC p + widthC q := by
  induction p with
  | nil => simp [widthC]
  | cons x p ih => simp [widthC, ih]; omega

theorem SR_alloc [Glob] {w0 : World} {E : Ent} {R0 : Nat → Prop} {M : Key → Option AV} {C : Ctx} (h : SR w0 E R0 M C) {id : Nat} (hid : ¬ C.has id) (hK : ∀ b n, ¬ E.K id b n) (cs : Array Value) (e : TypeId) {l : List AV} (hl : CR C l cs.toList) :
    ∃ C' : Ctx, C'.w = C.w.alloc (.cells cs e) ∧ C.Le C' ∧ (∀ i, C'.dom i ↔ C.dom i ∨ i = id) ∧ C'.ρ id = C.w.heap.size ∧ (C'.R = C.R ∧ C'.sz id = cs.size ∧ (∀ i, i ≠ id → C'.sz i = C.sz i) ∧ C'.row = C.row) ∧ SR w0 E R0 (updK M (keysAcc id 0 l [])) C' := by
  have hdom : ¬ C.dom id := fun h => hid (.inl h)
  have hrow : ¬ C.row id := fun h => hid (.inr h)
  have hle : C.Le { C with w := C.w.alloc (.cells cs e), ρ := fun i => if i = id then C.w.heap.size else C.ρ i, dom := fun i => C.dom i ∨ i = id, sz := fun i => if i = id then cs.size else C.sz i } := by
    refine ⟨fun i hi => ⟨.inl hi, ?_⟩, fun b hb => ⟨hb, RowKit.Below.heap_alloc _ _ _ (h.own.R_lt b hb)⟩, fun _ _ h => ⟨h, rfl⟩⟩
    have : i ≠ id := fun e => hdom (e ▸ hi)
    simp [this]
  have hnone : ∀ o, M (id, o) = none := fun o => by
    cases hm : M (id, o) with
    | none => rfl
    | some a => exact (hid (h.mr.has hm)).elim
  refine ⟨_, rfl, hle, fun i => Iff.rfl, by simp, ⟨rfl, by simp, fun i hi => by simp [hi], rfl⟩, ⟨⟨?_, ?_, ?_⟩, ⟨?_, ?_, ?_, ?_, ?_, ?_, ?_, h.own.liv, ?_, h.own.hokr⟩, ⟨h.fr.os, h.fr.tape, h.fr.output, ?_, ?_⟩, ?_, h.rr, ?_, Glob.mono h.gl hle.R, (fun i hi => by have hn : i ≠ id := fun e => hrow (e ▸ h.own.liv i hi); simpa only [hn, if_false] using h.rown i hi)⟩⟩
  · intro id' o' a ha hsa
    unfold updK at ha
    split at ha
    · rename_i x hx
      simp only [Option.some.injEq] at ha; subst ha
      rcases look_keysAcc hx with ⟨p, q, rfl, hk⟩ | h'
      · simp only [Prod.mk.injEq] at hk
        obtain ⟨rfl, rfl⟩ := hk
        obtain ⟨v1, v2, hv, h1, h2⟩ := CR_split hl
        obtain ⟨v3, v4, rfl, h3, h4, h5, h6⟩ := CR_uncons h2
        refine ⟨.inr rfl, v3, h3.mono hle, ?_⟩
        intro j v hj
        have hjl : j < v3.length := by
          rcases Nat.lt_or_ge j v3.length with h | h
          · exact h
          · rw [List.getElem?_eq_none h] at hj; cases hj
        simp only [if_true]
        rw [World.cell?_alloc_new]
        rw [← Array.getElem?_toList, hv, ← CR_length h1, List.getElem?_append_right (by omega), List.getElem?_append_left (by omega)]
        rw [show 0 + v1.length + j - v1.length = j by omega]
        exact hj
      · simp [look] at h'
    · obtain ⟨hd', us, hu, huc⟩ := h.mr.at_ id' o' a ha hsa
      refine ⟨.inl hd', us, hu.mono hle, ?_⟩
      intro j v hj
      have hne : id' ≠ id := fun e => hdom (e ▸ hd')
      simp only [hne, if_false]
      rw [World.cell?_alloc_lt _ _ _ (h.own.lt _ (.inl hd'))]
      exact huc j v hj
  · intro id' o' a ha hsa
    unfold updK at ha
    split at ha
    · rename_i x hx
      simp only [Option.some.injEq] at ha; subst ha
      rcases look_keysAcc hx with ⟨p, q, rfl, hk⟩ | h'
      · obtain ⟨v1, v2, hv, h1, h2⟩ := CR_split hl
        rw [CR_spec h2] at hsa; cases hsa
      · simp [look] at h'
    · have hsp := h.mr.sp id' o' a ha hsa
      have hne : id' ≠ id := fun e => hid (e ▸ hsp.has)
      exact hsp.congr ⟨by simp [hne], .rfl, .rfl, fun _ => by simp [hne], fun _ => .rfl, fun _ _ => rfl, fun hb => RowKit.Below.heap_alloc _ _ _ (h.own.lt _ hb)⟩ hle.R
  · intro id' o1 o2 a1 a2 h1 h2 hlt
    unfold updK at h1 h2
    split at h1
    · rename_i x1 hx1
      simp only [Option.some.injEq] at h1; subst h1
      rcases look_keysAcc hx1 with ⟨p1, q1, e1, k1⟩ | h'
      · simp only [Prod.mk.injEq] at k1
        obtain ⟨rfl, rfl⟩ := k1
        split at h2
        · rename_i x2 hx2
          simp only [Option.some.injEq] at h2; subst h2
          rcases look_keysAcc hx2 with ⟨p2, q2, e2, k2⟩ | h'
          · simp only [Prod.mk.injEq, true_and] at k2
            subst k2
            rw [e1] at e2
            have hlen : widthC p1 < widthC p2 := by omega
            rcases Nat.lt_or_ge p1.length p2.length with hl1 | hl1
            · obtain ⟨r, hr⟩ : ∃ r, p2 = p1 ++ r := by
                have : p1 <+: p2 := by
                  apply List.prefix_of_prefix_length_le (l₃ := p1 ++ x1 :: q1)
                  · exact List.prefix_append _ _
                  · rw [e2]; exact List.prefix_append _ _
                  · omega
                obtain ⟨r, hr⟩ := this
                exact ⟨r, hr.symm⟩
              subst hr
              cases r with
              | nil => simp at hl1
              | cons z r =>
                rw [List.append_assoc, List.append_cancel_left_eq] at e2
                simp only [List.cons_append, List.cons.injEq] at e2
                rw [widthC_app]
                simp [widthC, e2.1] <;> omega
            · exfalso
              have : p2 <+: p1 := by
                apply List.prefix_of_prefix_length_le (l₃ := p1 ++ x1 :: q1)
                · rw [e2]; exact List.prefix_append _ _
                · exact List.prefix_append _ _
                · omega
              obtain ⟨r, hr⟩ := this
              rw [← hr, widthC_app] at hlen
              omega
          · simp [look] at h'
        · rw [hnone] at h2; cases h2
      · simp [look] at h'
    · split at h2
      · rename_i x2 hx2
        rcases look_keysAcc hx2 with ⟨p2, q2, e2, k2⟩ | h'
        · simp only [Prod.mk.injEq] at k2
          obtain ⟨rfl, _⟩ := k2
          rw [hnone] at h1; cases h1
        · simp [look] at h'
      · exact h.mr.apart _ _ _ _ _ h1 h2 hlt
  · intro i hi
    replace hi := or_swap3 hi
    simp only [World.size_alloc]
    split
    · omega
    · rename_i hne
      rcases hi with hi | hi
      · have := h.own.lt i hi; omega
      · exact (hne hi).elim
  · intro i hi o
    replace hi := or_swap3 hi
    by_cases hne : i = id
    · simp only [hne, if_true]; exact World.frozen?_alloc_new _ _ _ _
    · simp only [hne, if_false]
      rcases hi with hi | hi
      · rw [World.frozen?_alloc_old _ _ _ (Nat.ne_of_lt (h.own.lt i hi))]; exact h.own.unfrozen i hi o
      · exact (hne hi).elim
  · intro i hi
    replace hi := or_swap3 hi
    by_cases hne : i = id
    · simp only [hne, if_true]; intro hR; exact Nat.lt_irrefl _ (h.own.R_lt _ hR)
    · simp only [hne, if_false]
      rcases hi with hi | hi
      · exact h.own.apart i hi
      · exact (hne hi).elim
  · intro a b ha hb hab
    replace ha := or_swap3 ha
    replace hb := or_swap3 hb
    by_cases ha' : a = id <;> by_cases hb' : b = id
    · rw [ha', hb']
    · simp only [ha', hb', if_true, if_false] at hab
      rcases hb with hb | hb
      · have := h.own.lt b hb; omega
      · exact (hb' hb).elim
    · simp only [ha', hb', if_true, if_false] at hab
      rcases ha with ha | ha
      · have := h.own.lt a ha; omega
      · exact (ha' ha).elim
    · simp only [ha', hb', if_false] at hab
      rcases ha with ha | ha
      · rcases hb with hb | hb
        · exact h.own.inj a b ha hb hab
        · exact (hb' hb).elim
      · exact (ha' ha).elim
  · intro b hb; simp only [World.size_alloc]; have := h.own.R_lt b hb; omega
  · intro i hi
    by_cases hne : i = id
    · simp only [hne, if_true]
      unfold objSize
      rw [show (C.w.alloc (.cells cs e)).heap[C.w.heap.size]? = some (.cells cs e) from Array.getElem?_push_size ..]
    · simp only [hne, if_false]
      rcases hi with hi | hi
      · rw [objSize_of (RowKit.Below.heap_alloc _ _ _ (h.own.lt i (.inl hi)))]; exact h.own.sized i hi
      · exact (hne hi).elim
  · intro i hi
    rcases hi with hi | hi
    · exact h.own.dis i hi
    · exact hi ▸ hrow
  · intro i hi
    have hne : i ≠ id := fun e => hrow (e ▸ hi)
    simp only [hne, if_false]
    exact h.own.rsz i hi
  · simp only [World.size_alloc]; have := h.fr.size; omega
  · intro b hb hE
    have := h.fr.size
    rw [RowKit.Below.heap_alloc _ _ _ (by omega)]
    exact h.fr.block b hb hE
  · intro i hi
    replace hi := or_swap3 hi
    by_cases hne : i = id
    · simp only [hne, if_true]; left; exact h.fr.size
    · simp only [hne, if_false]
      rcases hi with hi | hi
      · exact h.mine i hi
      · exact (hne hi).elim
  · intro i b n hk hi
    by_cases hne : i = id
    · subst hne; exact (hK b n hk).elim
    · simp only [hne, if_false]
      rcases hi with hi | hi
      · exact h.keep i b n hk hi
      · exact (hne hi).elim

end Go.Proofs.YtcdnbdphakhilaaGreatDoor.Ev
namespace Go.Proofs.YtcdnbdphakhilaaGreatDoor.Ev

/-- A world, and what is read alone; no objects of one's own. -/
def baseC (w : World) (R : Nat → Prop) : Ctx := ⟨w, fun _ => 0, fun _ => False, R, fun _ => 0, fun _ => False, fun _ => False, fun _ _ => False, fun _ _ => .bool false⟩

def Invokes (P : Program) (f : FuncId) (args : Array Value) (w : World) (K : Value → World → Prop) : Prop :=
  (∃ v w', (callFunc f args).run P w = .ok (.value v) w' ∧ K v w') ∨
  ((callFunc f args).run P w = .ok (.enter f args) w ∧ Calls P f args w fun e w' => ∃ v, e = .returned v ∧ K v w')

/-- What a call has come to. -/
structure Done (w : World) (R : Nat → Prop) (r : AV) (v : Value) (w' : World) (R' : Nat → Prop) : Prop where
  more : ∀ b, R b → R' b
  new : ∀ b, R' b → R b ∨ w.heap.size ≤ b
  lt : ∀ b, R' b → b < w'.heap.size
  fr : Fr w (fun _ => False) w'
  res : VR (baseC w' R') r v

/-- An object that is handed over. -/
structure ObjR (w : World) (R : Nat → Prop) (b : Nat) (l : List AV) : Prop where
  lt : b < w.heap.size
  apart : ¬ R b
  unfrozen : ∀ o, w.frozen? ⟨b, o, none⟩ = false
  cells : ∃ vs, CR (baseC w R) l vs ∧ cellsAt w b 0 vs ∧ objSize w b = vs.length

inductive AR (w : World) (R : Nat → Prop) : List AV → List Value → List (Nat × List AV) → Prop
  | nil : AR w R [] [] []
  | val {a : AV} {v : Value} {as : List AV} {vs : List Value} {os : List (Nat × List AV)} (h : VR (baseC w R) a v) (hl : AR w R as vs os) : AR w R (a :: as) (v :: vs) os
  | obj {b : Nat} {l : List AV} {as : List AV} {vs : List Value} {os : List (Nat × List AV)} (h : ObjR w R b l) (hl : AR w R as vs os) : AR w R (.obj l :: as) (.pointer (some ⟨b, 0, none⟩) :: vs) ((b, l) :: os)

/-- What the objects hold behind the call. -/
inductive OutR (w : World) (R : Nat → Prop) : List (Nat × List AV) → List (List AV) → Prop
  | nil : OutR w R [] []
  | cons {b : Nat} {l c : List AV} {os : List (Nat × List AV)} {cs : List (List AV)} (h : ObjR w R b c) (hl : OutR w R os cs) : OutR w R ((b, l) :: os) (c :: cs)

/-- What a call that changes objects has come to. -/
structure DoneO (w : World) (R : Nat → Prop) (os : List (Nat × List AV)) (r : CallRes) (v : Value) (w' : World) (R' : Nat → Prop) : Prop where
  more : ∀ b, R b → R' b
  new : ∀ b, R' b → R b ∨ w.heap.size ≤ b
  lt : ∀ b, R' b → b < w'.heap.size
  fr : Fr w (fun b => b ∈ os.map (·.1)) w'
  res : VR (baseC w' R') r.val v
  outs : OutR w' R' os r.outs
  size : ∀ b, b < w.heap.size → objSize w' b = objSize w b

def FnOkO [Glob] (P : Program) (f : FuncId) (s : CSpec) : Prop :=
  ∀ as r, s as = some r → (∀ c ∈ r.pre, c = true) → ∀ (w : World) (R : Nat → Prop) (vs : List Value) (os : List (Nat × List AV)), (∀ b, R b → b < w.heap.size) → Glob.G w R → AR w R as vs os → (os.map (·.1)).Nodup →
    Invokes P f vs.toArray w fun v w' => ∃ R', DoneO w R os r v w' R'

def FnOkV [Glob] (P : Program) (f : FuncId) (s : CSpec) : Prop :=
  ∀ as r, s as = some r → (∀ c ∈ r.pre, c = true) → ∀ (w : World) (R : Nat → Prop) (vs : List Value), (∀ b, R b → b < w.heap.size) → Glob.G w R → TR (baseC w R) as vs →
    Invokes P f vs.toArray w fun v w' => ∃ R', Done w R r.res v w' R'

/-- What a call that hands back a new object has come to. -/
structure DoneP (w : World) (R : Nat → Prop) (l : List AV) (v : Value) (w' : World) (R' : Nat → Prop) : Prop where
  more : ∀ b, R b → R' b
  new : ∀ b, R' b → R b ∨ w.heap.size ≤ b
  lt : ∀ b, R' b → b < w'.heap.size
  fr : Fr w (fun _ => False) w'
  val : ∃ b, v = .pointer (some ⟨b, 0, none⟩) ∧ w.heap.size ≤ b ∧ ObjR w' R' b l

def FnOkP [Glob] (P : Program) (f : FuncId) (s : CSpec) : Prop :=
  ∀ as r, s as = some r → (∀ c ∈ r.pre, c = true) → ∀ (w : World) (R : Nat → Prop) (vs : List Value), (∀ b, R b → b < w.heap.size) → Glob.G w R → TR (baseC w R) as vs →
    ∃ l, r.res = .obj l ∧ Invokes P f vs.toArray w fun v w' => ∃ R', DoneP w R l v w' R'

/-- What a function may change that is handed objects and rows. -/
def entE (C : Ctx) (h : ∀ i, C.has i → big ≤ i) : Ent := ⟨fun b => ∃ i, C.blk i ∧ C.ρ i = b, fun id b n => C.dom id ∧ C.ρ id = b ∧ C.sz id = n, fun id b => (C.liv id ∧ C.row id) ∧ C.ρ id = b, fun id _ hr => h id (.inr hr.1.2)⟩
/-- How it starts. -/
structure EntM [Glob] (C : Ctx) (frag : List AV) (h : ∀ i, C.has i → big ≤ i) : Prop where
  sr : SR C.w (entE C h) C.R (look (fragMem big frag)) C
  ids : ∀ i, C.has i → (i, C.sz i) ∈ fragIds big frag
/-- What it has come to. -/
structure DoneM [Glob] (C : Ctx) (h : ∀ i, C.has i → big ≤ i) (frag : List AV) (val : AV) (outs : List (List AV)) (v : Value) (C' : Ctx) : Prop where
  sr : ∃ M, SR C.w (entE C h) C.R M C'
  hok : ∀ i v, C'.hok i v → v = 0
  res : bareR val = true → VR (baseC C'.w C'.R) val v
  obj : ∀ (k : Nat) l, frag[k]? = some (.obj l) → ∃ c us, outs[k]? = some c ∧ C'.dom (big + k) ∧ CR C' c us ∧ us.length = widthC l ∧ cellsAt C'.w (C'.ρ (big + k)) 0 us
  row : ∀ (k e t : Nat) (xs : List (Dat t)) (w : Nat), frag[k]? = some (.row e t xs w) → ∃ ys : List (Dat t), outs[k]? = some [.row e t ys 0] ∧ RowR C' (big + k) e t ys 0
def FnOkM [Glob] (P : Program) (f : FuncId) (s : CSpec) : Prop :=
  ∀ as fr r, s (as ++ fr) = some r → as.all (fun a => !isFrag a) = true → fr.all isFrag = true → (∀ c ∈ r.pre, c = true) → ∀ (C : Ctx) (h : ∀ i, C.has i → big ≤ i) (vs : List Value), EntM C fr h → TR C as vs →
    Invokes P f vs.toArray C.w fun v w' => ∃ C', C'.w = w' ∧ DoneM C h fr r.val r.outs v C'

/-- From these numbers on: what functions make of objects that are handed over; which objects they hand back; what they make of all that they are led to. -/
abbrev offO : Nat := 1000000
abbrev offP : Nat := 2000000
abbrev offM : Nat := 3000000
/-- A function keeps what is said of it. -/
def FnOk [Glob] (P : Program) (f : FuncId) (s : CSpec) : Prop := (f < offO → FnOkV P f s) ∧ (offO ≤ f → (f < offP → FnOkO P (f - offO) s) ∧ (offP ≤ f → (f < offM → FnOkP P (f - offP) s) ∧ (offM ≤ f → FnOkM P (f - offM) s)))

theorem Fr.refl (w : World) (E : Nat → Prop) : Fr w E w := ⟨rfl, rfl, rfl, Nat.le_refl _, fun _ _ _ => rfl⟩
theorem Fr.trans {w0 w1 w2 : World} {E : Nat → Prop} (h : Fr w0 E w1) (k : Fr w1 (fun _ => False) w2) : Fr w0 E w2 :=
  ⟨k.os.trans h.os, k.tape.trans h.tape, k.output.trans h.output, Nat.le_trans h.size k.size, fun b hb hE => (k.block b (Nat.lt_of_lt_of_le hb h.size) (fun e => e)).trans (h.block b hb hE)⟩

section
variable {P : Program} {T : TypeId → Option TyI} {w : World} {C : Ctx}

theorem bareS_VR {a : AV} {v : Value} (h : VR C a v) (hb : bareS a = true) {R : Nat → Prop} {w' : World} (hR : ∀ b, C.R b → R b ∧ w'.heap[b]? = C.w.heap[b]?) : VR (baseC w' R) a v := by
  have hle : C.bare.Le (baseC w' R) := ⟨fun _ h => h.elim, hR, fun _ _ h => h.elim⟩
  have : VR C.bare a v := by
    cases h with
    | poison => exact .poison _
    | i hk h => exact .i hk h
    | u hk => exact .u hk
    | b => exact .b _
    | str _ h => exact .str _ h
    | nilp => exact .nilp
    | nils => exact .nils
    | ro hR' h hl hc hcap hn => exact .ro hR' h hl hc hcap hn
    | ro0 => exact .ro0
    | roE => exact .roE
    | rp hR' h hc => exact .rp hR' h hc
    | vw h => exact .vw (ro_dom _ _ h)
    | _ => simp [bareS] at hb
  exact this.mono hle

theorem bareS_TR {l : List AV} {vs : List Value} (h : TR C l vs) (hb : l.all bareS = true) {R : Nat → Prop} {w' : World} (hR : ∀ b, C.R b → R b ∧ w'.heap[b]? = C.w.heap[b]?) : TR (baseC w' R) l vs := by
  match h with
  | .nil => exact .nil
  | .cons h hl =>
    simp only [List.all_cons, Bool.and_eq_true] at hb
    exact .cons (bareS_VR h hb.1 hR) (bareS_TR hl hb.2 hR)
theorem bare1_VR {a : AV} {v : Value} (h : VR C a v) (hb : bare1 a = true) {R : Nat → Prop} {w' : World} (hR : ∀ b, C.R b → R b ∧ w'.heap[b]? = C.w.heap[b]?) : VR (baseC w' R) a v := by
  cases a with
  | clo f l =>
    cases h with
    | clo h => exact .clo (bareS_TR h hb hR)
  | _ => exact bareS_VR h hb hR

theorem bare_CR {l : List AV} {vs : List Value} (h : CR C l vs) (hb : l.all bare1 = true) {R : Nat → Prop} {w' : World} (hR : ∀ b, C.R b → R b ∧ w'.heap[b]? = C.w.heap[b]?) : CR (baseC w' R) l vs := by
  match h with
  | .nil => exact .nil
  | .one ha hv h hl =>
    simp only [List.all_cons, Bool.and_eq_true] at hb
    exact .one ha hv (bare1_VR h hb.1 hR) (bare_CR hl hb.2 hR)
  | .ar h0 h h1 hf hl =>
    simp only [List.all_cons, Bool.and_eq_true] at hb
    have hle : C.bare.Le (baseC w' R).bare := ⟨fun _ h => h.elim, hR, fun _ _ h => h.elim⟩
    exact .ar h0 (fun j hj => (h j hj).mono hle) h1 hf (bare_CR hl hb.2 hR)

theorem bareV_VR {a : AV} {v : Value} (h : VR C a v) (hb : bareV a = true) {R : Nat → Prop} {w' : World} (hR : ∀ b, C.R b → R b ∧ w'.heap[b]? = C.w.heap[b]?) : VR (baseC w' R) a v := by
  cases a with
  | agg l => cases h with
    | agg h => exact .agg (bare_CR h (by simpa [bareV] using hb) hR)
  | _ => exact bare1_VR h hb hR

theorem bareV_TR {l : List AV} {vs : List Value} (h : TR C l vs) (hb : l.all bareV = true) {R : Nat → Prop} {w' : World} (hR : ∀ b, C.R b → R b ∧ w'.heap[b]? = C.w.heap[b]?) : TR (baseC w' R) l vs := by
  match h with
  | .nil => exact .nil
  | .cons h hl =>
    simp only [List.all_cons, Bool.and_eq_true] at hb
    exact .cons (bareV_VR h hb.1 hR) (bareV_TR hl hb.2 hR)

theorem fieldOf_run (hT : TyOk P T) {t f o ft : Nat} (h : fieldOf T t f = some (o, ft)) : ∃ d l fs, T t = some d ∧ d.desc = .struct l ∧ l[f]? = some (o, ft) ∧ P.underlying t = some (.struct fs) ∧ fs.toList.map (fun f => (f.offset, f.type)) = l := by
  unfold fieldOf at h
  cases ht : T t with
  | none => simp [ht] at h
  | some d =>
    simp only [ht] at h
    split at h
    · rename_i l hd
      split at h
      · rename_i g hg
        simp only [Option.some.injEq] at h; subst h
        obtain ⟨fs, h1, h2⟩ := und_struct (hT t d ht) hd
        exact ⟨d, l, fs, rfl, hd, hg, h1, h2⟩
      · simp at h
    · simp at h

theorem field_at {fs : Array Field} {l : List (Nat × TypeId)} (h : fs.toList.map (fun f => (f.offset, f.type)) = l) {f o ft : Nat} (hf : l[f]? = some (o, ft)) : ∃ g : Field, fs[f]? = some g ∧ g.offset = o ∧ g.type = ft := by
  subst h
  rw [List.getElem?_map] at hf
  cases hg : fs.toList[f]? with
  | none => simp [hg] at hf
  | some g =>
    simp only [hg, Option.map_some, Option.some.injEq, Prod.mk.injEq] at hf
    exact ⟨g, by rw [← Array.getElem?_toList]; exact hg, hf.1, hf.2⟩

theorem places_of : ∀ (fs : List Field), (∀ f ∈ fs, (P.info? f.type).isSome = true) → ∃ pl, fs.mapM (fun f => (P.info? f.type).map fun i => (f.offset, i.size)) = some pl ∧
    ∀ (i : Nat) (g : Field), fs[i]? = some g → ∃ inf, P.info? g.type = some inf ∧ pl[i]? = some (g.offset, inf.size)
  | [], _ => ⟨[], rfl, fun i g h => by simp at h⟩
  | f :: fs, h => by
    obtain ⟨pl, h1, h2⟩ := places_of fs (fun g hg => h g (by simp [hg]))
    obtain ⟨inf, hi⟩ := Option.isSome_iff_exists.1 (h f (by simp))
    refine ⟨(f.offset, inf.size) :: pl, by simp [hi, h1], ?_⟩
    intro i g hg
    cases i with
    | zero => simp at hg; subst hg; exact ⟨inf, hi, rfl⟩
    | succ i => simpa using h2 i g (by simpa using hg)

theorem fold_set : ∀ (vs : List Value) (k off : Nat) (cs : Array Value), off + k + vs.length ≤ cs.size →
    (vs.zipIdx k).foldl (fun cs (x : Value × Nat) => cs.setIfInBounds (off + x.2) x.1) cs = (cs.toList.take (off + k) ++ vs ++ cs.toList.drop (off + k + vs.length)).toArray
  | [], k, off, cs, h => by simp
  | v :: vs, k, off, cs, h => by
    simp only [List.length_cons] at h
    rw [List.zipIdx_cons, List.foldl_cons, fold_set vs (k + 1) off _ (by simp; omega)]
    congr 1
    have e : (cs.setIfInBounds (off + k) v).toList = cs.toList.set (off + k) v := by simp
    have hlt : off + k < cs.toList.length := by simp; omega
    have hA : cs.toList.set (off + k) v = cs.toList.take (off + k) ++ v :: cs.toList.drop (off + k + 1) := by rw [List.set_eq_take_append_cons_drop, if_pos hlt]
    have hl : (cs.toList.take (off + k)).length = off + k := by rw [List.length_take]; omega
    have hD : cs.toList.drop (off + k + (v :: vs).length) = (cs.toList.drop (off + k + 1)).drop vs.length := by rw [List.drop_drop, List.length_cons]; congr 1; omega
    rw [e, hA, hD]
    generalize cs.toList.take (off + k) = A at hl ⊢
    generalize cs.toList.drop (off + k + 1) = D
    rw [List.take_append, List.drop_append, hl, List.take_of_length_le (by omega), List.drop_of_length_le (by omega)]
    rw [show off + (k + 1) - (off + k) = 1 by omega, show off + (k + 1) + vs.length - (off + k) = vs.length + 1 by omega]
    simp

theorem fill_one {place : Nat → Option (Nat × Nat)} {cells : Array Value} {i off size : Nat} {v : Value} {rest : List (Nat × Value)} (hp : place i = some (off, size)) (hs : v.cells.size = size) (hle : off + size ≤ cells.size) :
    Instr.fill place cells ((i, v) :: rest) = Instr.fill place (cells.toList.take off ++ v.cells.toList ++ cells.toList.drop (off + size)).toArray rest := by
  have h1 : ¬ ((v.cells.size ≠ size) || off + v.cells.size > cells.size) = true := by simp [hs]; omega
  simp only [Instr.fill, hp]
  rw [if_neg (by simpa using h1)]
  congr 1
  rw [← Array.foldl_toList, Array.toList_zipIdx]
  have := fold_set v.cells.toList 0 off cells (by simp; omega)
  simp only [Nat.add_zero, Array.length_toList, hs] at this
  exact this

/-- The values of a literal's parts. -/
inductive PR (C : Ctx) : List (Nat × AV) → List (Nat × Value) → Prop
  | nil : PR C [] []
  | cons {i : Nat} {a : AV} {v : Value} {l : List (Nat × AV)} {vs : List (Nat × Value)} (h : VR C a v) (hl : PR C l vs) : PR C ((i, a) :: l) ((i, v) :: vs)

end
end Go.Proofs.YtcdnbdphakhilaaGreatDoor.Ev
namespace Go.Proofs.YtcdnbdphakhilaaGreatDoor.Ev
section
variable {P : Program} {T : TypeId → Option TyI} {w : World} {C : Ctx}

theorem cellable_CR {a : AV} {v : Value} (h : VR C a v) (hc : a.cellable = true) : CR C a.cells v.cells.toList := by
  cases a with
  | agg l => exact cells_CR h (.inr ⟨l, rfl⟩) (fun e => by simp [AV.single] at e)
  | poison => simp [AV.cellable] at hc
  | ar n f => simp [AV.cellable] at hc
  | fin r cs => simp [AV.cellable] at hc
  | tup l => simp [AV.cellable] at hc
  | obj l => simp [AV.cellable] at hc
  | sit a b => simp [AV.cellable] at hc
  | dead => simp [AV.cellable] at hc
  | row e t xs v => simp [AV.cellable] at hc
  | pg a b c d e => simp [AV.cellable] at hc
  | _ => exact cells_CR h (.inl rfl) (fun _ => VR_oneCell h (fun e => by cases e) rfl)

theorem evParts_fill (hT : TyOk P T) {t : TypeId} {fs : Array Field} (hu : P.underlying t = some (.struct fs)) {pl : List (Nat × Nat)}
    (hpl : ∀ (i : Nat) (g : Field), fs.toList[i]? = some g → ∃ inf, P.info? g.type = some inf ∧ pl[i]? = some (g.offset, inf.size)) :
    ∀ {parts : List (Nat × AV)} {pvs : List (Nat × Value)} {cells out : List AV} {zs : List Value}, evParts T t cells parts = some out → CR C cells zs → PR C parts pvs →
      ∃ zs', Instr.fill (pl.toArray[·]?) zs.toArray pvs = some zs'.toArray ∧ CR C out zs'
  | [], pvs, cells, out, zs, h, hz, hp => by
    cases hp
    simp only [evParts, Option.some.injEq] at h; subst h
    exact ⟨zs, rfl, hz⟩
  | (f, a) :: parts, pvs, cells, out, zs, h, hz, hp => by
    cases hp with
    | @cons _ _ v _ vs hv hl =>
    simp only [evParts] at h
    split at h
    · rename_i o ft hf
      obtain ⟨d0, l, fs', ht, hd0, hlf, hu', hmap⟩ := fieldOf_run hT hf
      have : fs' = fs := by rw [hu] at hu'; simpa using hu'.symm
      subst this
      obtain ⟨g, hg, ho, hgt⟩ := field_at hmap hlf
      obtain ⟨inf, hinf, hplf⟩ := hpl f g (by rw [Array.getElem?_toList]; exact hg)
      split at h
      · rename_i d hd
        obtain ⟨i2, hi2, hsz, _⟩ := (hT ft d hd).info
        have hsize : inf.size = d.size := by rw [hgt, hi2] at hinf; simp only [Option.some.injEq] at hinf; rw [← hinf]; exact hsz
        split at h
        · rename_i p q hs1
          split at h
          · rename_i p2 r hs2
            split at h
            · rename_i hc
              simp only [Bool.and_eq_true, beq_iff_eq] at hc
              obtain ⟨k1, k2, k3⟩ := splitC_CR hs1 hz
              obtain ⟨k4, k5, k6⟩ := splitC_CR hs2 k2
              have hvc := cellable_CR hv hc.1
              have hvl : v.cells.size = d.size := by rw [← hc.2, ← CR_length hvc]; simp
              have hlen1 := CR_length k1
              have hlen2 := CR_length k4
              rw [k3, List.length_take] at hlen1
              rw [k6, List.length_take, List.length_drop] at hlen2
              have hle : o + d.size ≤ zs.length := by omega
              have hfill := fill_one (place := fun x => pl.toArray[x]?) (cells := zs.toArray) (i := f) (off := o) (size := d.size) (v := v) (rest := vs)
                (by rw [← ho, ← hsize]; simpa using hplf) hvl (by simpa using hle)
              rw [hfill]
              have hz' : CR C (p ++ a.cells ++ r) (zs.take o ++ v.cells.toList ++ zs.drop (o + d.size)) := by
                refine CR_app (CR_app k1 hvc) ?_
                rw [List.drop_drop] at k5
                exact k5
              exact evParts_fill hT hu hpl h hz' hl
            · simp at h
          · simp at h
        · simp at h
      · simp at h
    · simp at h

theorem arFn_eq {l : List AV} {j : Nat} (hj : j < l.length) : arFn l j = l.getD j .nilp := by
  have hg : l.getD j .nilp = l[j] := by simp [List.getD, hj]
  have hm : l[j] ∈ l := List.getElem_mem hj
  cases h1 : l.all isI64 with
  | true =>
    have e0 : arFn l j = .i .i64 ((l.map unI64).getD j 0) := by unfold arFn; rw [h1]
    have := List.all_eq_true.1 h1 _ hm
    have e : (l.map unI64).getD j 0 = unI64 l[j] := by simp [List.getD, hj]
    rw [e0, hg, e]
    cases hx : l[j] <;> rw [hx] at this <;> simp [isI64] at this
    rename_i k n
    cases k <;> simp [isI64] at this
    rfl
  | false =>
    cases h2 : l.all isU32 with
    | true =>
      have e0 : arFn l j = .u 32 ((l.map unU32).getD j 0#32) := by unfold arFn; rw [h1, h2]
      have := List.all_eq_true.1 h2 _ hm
      have e : (l.map unU32).getD j 0#32 = unU32 l[j] := by simp [List.getD, hj]
      rw [e0, hg, e]
      cases hx : l[j] <;> rw [hx] at this <;> simp [isU32] at this
      rename_i w x
      split at this
      · rename_i e; cases e; rfl
      · cases this
    | false => unfold arFn; rw [h1, h2]
theorem arr_flat : ∀ {parts : List (Nat × AV)} {l : List AV} {k : Nat} {x : AV}, evArr k parts = some l → x ∈ l → x.flat = true
  | [], l, k, x, h, hx => by
    simp only [evArr, Option.some.injEq] at h; subst h
    cases hx
  | (i, a) :: parts, l, k, x, h, hx => by
    simp only [evArr] at h
    split at h
    · rename_i hc
      simp only [Bool.and_eq_true] at hc
      split at h
      · rename_i l' hrow
        simp only [Option.some.injEq] at h; subst h
        rcases List.mem_cons.1 hx with rfl | hx
        · have := hc.2
          cases x <;> simp [AV.plain] at this <;> rfl
        · exact arr_flat hrow hx
      · simp at h
    · simp at h
theorem evArr_fill {C : Ctx} : ∀ {parts : List (Nat × AV)} {pvs : List (Nat × Value)} {l : List AV} {k : Nat} {A B : List Value}, evArr k parts = some l → PR C parts pvs → A.length = k → B.length = l.length →
    ∃ us : List Value, us.length = l.length ∧ (∀ j, j < l.length → VR C.bare (l.getD j .nilp) (us.getD j undef) ∧ (us.getD j undef).oneCell' = true) ∧ Instr.fill (fun i => some (i * 1, 1)) (A ++ B).toArray pvs = some (A ++ us).toArray
  | [], pvs, l, k, A, B, h, hp, hA, hB => by
    cases hp
    simp only [evArr, Option.some.injEq] at h; subst h
    have : B = [] := List.eq_nil_of_length_eq_zero (by simpa using hB)
    subst this
    exact ⟨[], rfl, fun j hj => by simp at hj, rfl⟩
  | (i, a) :: parts, pvs, l, k, A, B, h, hp, hA, hB => by
    cases hp with
    | @cons _ _ v _ vs hv hl =>
    simp only [evArr] at h
    split at h
    · rename_i hc
      simp only [Bool.and_eq_true, beq_iff_eq] at hc
      obtain ⟨rfl, hpl⟩ := hc
      split at h
      · rename_i l' hrow
        simp only [Option.some.injEq] at h; subst h
        obtain ⟨hvb, ho⟩ := plain_bare hv hpl
        have hvc : v.cells = #[v] := by cases v <;> simp [Value.oneCell'] at ho <;> rfl
        have hfill := fill_one (place := fun x => some (x * 1, 1)) (cells := (A ++ B).toArray) (i := i) (off := i * 1) (size := 1) (v := v) (rest := vs) rfl (by rw [hvc]; rfl) (by simp at hB; simp; omega)
        rw [hfill]
        have e1 : (A ++ B).toArray.toList.take (i * 1) = A := by rw [Nat.mul_one, ← hA]; simp
        have e2 : (A ++ B).toArray.toList.drop (i * 1 + 1) = B.drop 1 := by rw [Nat.mul_one, ← hA]; simp [List.drop_append]
        rw [e1, e2, hvc]
        obtain ⟨us, h1, h2, h3⟩ := evArr_fill (A := A ++ [v]) (B := B.drop 1) hrow hl (by simp [hA]) (by simp at hB; simp [hB])
        refine ⟨v :: us, by simp [h1], ?_, ?_⟩
        · intro j hj
          match j with
          | 0 => exact ⟨hvb, ho⟩
          | j + 1 => simpa using h2 j (by simpa using hj)
        · have e3 : A ++ (#[v] : Array Value).toList ++ B.drop 1 = A ++ [v] ++ B.drop 1 := rfl
          rw [e3, h3]; simp
      · simp at h
    · simp at h

theorem evBuild_run (hT : TyOk P T) {t : TypeId} {parts : List (Nat × AV)} {pvs : Array (Nat × Value)} {r : OpR} (h : evBuild T t parts = some r) (hp : PR C parts pvs.toList) :
    ∃ v, (Instr.build t pvs).run P w = .ok v w ∧ VR C r.v v ∧ r.pre = [] ∧ r.wr = [] ∧ r.al = [] := by
  unfold evBuild at h
  cases ht : T t with
  | none => simp [ht] at h
  | some d =>
    simp only [ht] at h
    have ok := hT t d ht
    obtain ⟨it, hit, hsz, z, hz, hzc⟩ := ok.info
    split at h
    · rename_i l hd
      obtain ⟨fs, hu, hmap⟩ := und_struct ok hd
      obtain ⟨pl, hpl1, hpl2⟩ := places_of fs.toList (ok.fields fs hu)
      split at h
      · rename_i cells hc
        simp only [val, Option.some.injEq] at h; subst h
        obtain ⟨zs', hf, hcr⟩ := evParts_fill hT hu hpl2 hc (hzc C) hp
        refine ⟨.agg zs'.toArray, ?_, .agg hcr, rfl, rfl, rfl⟩
        apply run_build
        unfold Program.built
        simp only [hit, hu, hz, hpl1]
        simpa using hf
      · simp at h
    · rename_i n e hd
      have hu := und_array ok hd
      split at h
      · rename_i de l hde hl
        split at h
        · rename_i hc
          simp only [Bool.and_eq_true, beq_iff_eq] at hc
          obtain ⟨h1, rfl, hw, h0⟩ := hc
          have h0 : 0 < l.length := by simpa [Nat.blt_eq] using h0
          simp only [val, Option.some.injEq] at h; subst h
          obtain ⟨ie, hie, hse, _⟩ := (hT e de hde).info
          have hzl : z.cells.toList.length = l.length := by rw [CR_length (hzc C), hw]
          obtain ⟨us, k1, k2, k3⟩ := evArr_fill (A := []) (B := z.cells.toList) hl hp rfl hzl
          refine ⟨.agg us.toArray, ?_, .agg ?_, rfl, rfl, rfl⟩
          · apply run_build
            unfold Program.built
            simp only [hit, hu, hz, hie]
            rw [hse, h1]
            simpa using k3
          · have e : us = (List.range l.length).map (fun j => us.getD j undef) ++ [] := by
              apply List.ext_getElem?
              intro j
              rw [List.append_nil, List.getElem?_map]
              rcases Nat.lt_or_ge j l.length with hj | hj
              · rw [List.getElem?_range hj]
                simp [List.getD, show j < us.length by omega]
              · rw [List.getElem?_eq_none (by omega), List.getElem?_eq_none (by simpa using hj)]
                rfl
            rw [e]
            exact CR.ar h0 (fun j hj => by rw [arFn_eq hj]; exact (k2 j hj).1) (fun j hj => (k2 j hj).2) (fun j hj => by
              rw [arFn_eq hj]
              have : l.getD j .nilp ∈ l := by simp [List.getD, hj]
              exact arr_flat hl this) .nil
        · simp at h
      · simp at h
    · simp at h

end
end Go.Proofs.YtcdnbdphakhilaaGreatDoor.Ev
namespace Go.Proofs.YtcdnbdphakhilaaGreatDoor.Ev

/-- Behind an operation. -/
structure After [Glob] (w0 : World) (E : Ent) (R0 : Nat → Prop) (M : Key → Option AV) (C : Ctx) (r : OpR) (v : Value) (C' : Ctx) : Prop where
  le : C.Le C'
  res : VR C' r.v v
  sr : SR w0 E R0 (updK M r.wr) C'
  dom : ∀ i, C'.has i → (C.has i ∧ C'.sz i = C.sz i) ∨ (i, C'.sz i) ∈ r.al

section
variable {P : Program} {T : TypeId → Option TyI} {S : FuncId → CSpec} {w0 : World} {E : Ent} {R0 : Nat → Prop} {M : Key → Option AV} {C : Ctx}

/-- An operation that hands back a value and leaves the world alone. -/
theorem wp_val [Glob] {o : Oper} {a : Act} {r : OpR} {v : Value} {Q : Exit → Act → World → Prop} {K : Act → World → Prop} (h : SR w0 E R0 M C) (hr : (execOp a.eval o).run P C.w = .ok (.value v) C.w) (hv : VR C r.v v) (hw : r.wr = []) (ha : r.al = [])
    (hK : ∀ v C', After w0 E R0 M C r v C' → K (a.put o.dst v) C'.w) : o.wp P a C.w K Q := by
  unfold Oper.wp
  rw [hr]
  exact hK v C ⟨.refl C, hv, by rw [hw]; exact h, fun i hi => .inl ⟨hi, rfl⟩⟩

theorem lookAll_TR {Ev : Operand → Option AV} {a : Act} : ∀ {xs : List Operand} {vs : List AV} (hE : ∀ x v, x ∈ xs → Ev x = some v → VR C v (a.eval x)), lookAll Ev xs = some vs → TR C vs (xs.map a.eval)
  | [], vs, hE, h => by simp [lookAll] at h; subst h; exact .nil
  | x :: xs, vs, hE, h => by
    simp only [lookAll] at h
    split at h
    · rename_i v vs' h1 h2
      simp only [Option.some.injEq] at h; subst h
      exact .cons (hE x v (by simp) h1) (lookAll_TR (fun y u hy => hE y u (by simp [hy])) h2)
    · simp at h

theorem lookParts_PR {Ev : Operand → Option AV} {a : Act} : ∀ {xs : List (Nat × Operand)} {vs : List (Nat × AV)} (hE : ∀ x v, x ∈ xs.map (·.2) → Ev x = some v → VR C v (a.eval x)), lookParts Ev xs = some vs → PR C vs (xs.map fun p => (p.1, a.eval p.2))
  | [], vs, hE, h => by simp [lookParts] at h; subst h; exact .nil
  | (i, x) :: xs, vs, hE, h => by
    simp only [lookParts] at h
    split at h
    · rename_i v vs' h1 h2
      simp only [Option.some.injEq] at h; subst h
      exact .cons (hE x v (by simp) h1) (lookParts_PR (fun y u hy => hE y u (List.mem_cons_of_mem _ hy)) h2)
    · simp at h

theorem TR_get {l : List AV} {vs : List Value} (h : TR C l vs) {i : Nat} {a : AV} (hi : l[i]? = some a) : ∃ v, vs[i]? = some v ∧ VR C a v := by
  induction i generalizing l vs with
  | zero =>
    cases h with
    | nil => simp at hi
    | cons h hl => simp at hi; subst hi; exact ⟨_, rfl, h⟩
  | succ i ih =>
    cases h with
    | nil => simp at hi
    | cons h hl => simpa using ih hl (by simpa using hi)

theorem evFieldAddr_run (hT : TyOk P T) {t f : Nat} {x : AV} {X : Value} {r : OpR} (h : evFieldAddr T t x f = some r) (hx : VR C x X) :
    ∃ v, (Instr.fieldAt t X f).run P C.w = .ok v C.w ∧ VR C r.v v ∧ r.pre = [] ∧ r.wr = [] ∧ r.al = [] := by
  unfold evFieldAddr at h
  split at h
  · rename_i o ft hf
    obtain ⟨d, l, fs, ht, hd', hlf, hu, hmap⟩ := fieldOf_run hT hf
    obtain ⟨g, hg, ho, hgt⟩ := field_at hmap hlf
    split at h
    · rename_i d' hd2
      split at h
      · simp at h
      · rename_i hs
        have hsz : ∀ w, (sizeOf g.type).run P w = .ok d'.size w := fun w => by rw [hgt]; exact run_sizeOf (hT ft d' hd2)
        have hne : ¬ d'.size = 0 := by simpa using hs
        cases hx with
        | @ptr _ id off hd =>
          simp only [val, Option.some.injEq] at h; subst h
          refine ⟨.pointer (some ⟨C.ρ id, off + o, none⟩), ?_, .ptr _ hd, rfl, rfl, rfl⟩
          simp [Instr.fieldAt, run_underlying hu, hg, Instr.sureAddr, fieldPlace, addr_add, ho, hsz, hne]
        | @rp _ cells off b o' vs hb hl hc =>
          simp only [val, Option.some.injEq] at h; subst h
          refine ⟨.pointer (some ⟨b, o' + (off + o), none⟩), ?_, .rp hb hl hc, rfl, rfl, rfl⟩
          simp [Instr.fieldAt, run_underlying hu, hg, Instr.sureAddr, fieldPlace, addr_add, ho, Nat.add_assoc, hsz, hne]
        | @pg _ id ver sz i off b n cap hk e hi =>
          simp only [val, Option.some.injEq] at h; subst h
          refine ⟨.pointer (some ⟨b, i * sz + (off + o), none⟩), ?_, .pg hk e hi, rfl, rfl, rfl⟩
          simp [Instr.fieldAt, run_underlying hu, hg, Instr.sureAddr, fieldPlace, addr_add, ho, Nat.add_assoc, hsz, hne]
        | _ => simp at h
    · simp at h
  · simp at h

theorem run_part {t : TypeId} {d : TyI} (ok : TyOk1 P t d) {l : List AV} {off : Nat} {a : AV} {vs : List Value} {w : World} (h : partC d l off = some a) (hl : CR C l vs) :
    ∃ v, (part t vs.toArray off).run P w = .ok v w ∧ VR C a v := by
  obtain ⟨k1, k2⟩ := partC_run h hl
  cases ha : isAggD d.desc with
  | true =>
    obtain ⟨ws, rfl, e2, e3, e4⟩ := k1 ha
    refine ⟨_, ?_, e3⟩
    simp only [part, Sem.run_bind, run_isAgg ok, Result.andThen_ok, ha, if_true, run_sizeOf ok, Sem.run_pure]
    congr 2
    apply Array.ext'
    simp [List.extract_eq_take_drop]
  | false =>
    obtain ⟨v, e1, e2, e3⟩ := k2 ha
    refine ⟨v, ?_, e2⟩
    simp [part, run_isAgg ok, ha, e1]

theorem evField_run (hT : TyOk P T) {t f : Nat} {x : AV} {X : Value} {r : OpR} (h : evField T t x f = some r) (hx : VR C x X) :
    ∃ v, (Instr.field t X f).run P C.w = .ok v C.w ∧ VR C r.v v ∧ r.pre = [] ∧ r.wr = [] ∧ r.al = [] := by
  unfold evField at h
  split at h
  · rename_i o ft cells hf
    cases hx with
    | @agg _ _ vs hl =>
    obtain ⟨d, l, fs, ht, hd', hlf, hu, hmap⟩ := fieldOf_run hT hf
    obtain ⟨g, hg, ho, hgt⟩ := field_at hmap hlf
    split at h
    · rename_i d' hd2
      split at h
      · rename_i v hv
        simp only [val, Option.some.injEq] at h; subst h
        obtain ⟨u, h1, h2⟩ := run_part (w := C.w) (hT ft d' hd2) hv hl
        refine ⟨u, ?_, h2, rfl, rfl, rfl⟩
        simp [Instr.field, run_underlying hu, hg, asAgg, hgt, ho, h1]
      · simp at h
    · simp at h
  · simp at h

theorem ixI_VR {ix : AV} {i : Int} {I : Value} (h : ixI ix = some i) (hi : VR C ix I) : ∃ k, I = .int k i := by
  cases hi <;> simp [ixI] at h
  · subst h; exact ⟨_, rfl⟩
  · subst h; exact ⟨_, rfl⟩

theorem indexRo_run (hT : TyOk P T) {t : TypeId} {e : Nat} {d de : TyI} {sz n : Nat} {get : Nat → List AV} {X : Value} {k : IntKind} {i : Int} (hu : P.underlying t = some (.slice e)) (hde : T e = some de) (hs1 : de.size = sz) (h0 : 0 ≤ i) (h1 : i < (n : Int)) (hx : VR C (.ro sz n get) X) :
    ∃ v, (Instr.indexAt t X (.int k i)).run P C.w = .ok v C.w ∧ VR C (.rp (get i.toNat) 0) v := by
  cases hx with
  | @ro _ _ _ _ b o cap cs hb hc hl hcell hcap hn =>
    have hlt : i.toNat < n := by omega
    refine ⟨.pointer (some ⟨b, (o + i.toNat * sz) + 0, none⟩), ?_, .rp hb (hc _ hlt) ?_⟩
    · simp [Instr.indexAt, run_underlying hu, asIntOf, h0, h1, run_sizeOf (hT e de hde), hs1, addr_add]
    · intro j hj
      rw [hl _ hlt] at hj
      exact hcell _ j hlt hj
  | ro0 => omega
  | roE => omega

theorem evIndexAddr_run (hT : TyOk P T) {t : TypeId} {x ix : AV} {X I : Value} {r : OpR} (h : evIndexAddr T t x ix = some r) (hp : ∀ c ∈ r.pre, c = true) (hx : VR C x X) (hi : VR C ix I) :
    ∃ v, (Instr.indexAt t X I).run P C.w = .ok v C.w ∧ VR C r.v v ∧ r.wr = [] ∧ r.al = [] := by
  unfold evIndexAddr at h
  split at h
  · rename_i d i ht hix
    obtain ⟨k, rfl⟩ := ixI_VR hix hi
    have ok := hT t d ht
    split at h
    · rename_i n e id off hd
      have hu := und_array ok hd
      cases hx with
      | ptr _ hdm =>
      split at h
      · rename_i de hde
        split at h
        · rename_i hsz
          simp only [valN, Option.some.injEq] at h; subst h
          simp at hp
          have hs1 : de.size = 1 := by simpa using hsz
          have hlt : i.toNat < n := by omega
          refine ⟨.pointer (some ⟨C.ρ id, off + i.toNat, none⟩), ?_, .px off n hdm hlt, rfl, rfl⟩
          simp [Instr.indexAt, run_underlying hu, asIntOf, Instr.sureAddr, hp, run_sizeOf (hT e de hde), hs1, addr_add]
        · simp at h
      · simp at h
    · rename_i n e l off hd
      have hu := und_array ok hd
      split at h
      · rename_i de q n' f p hde hsp
        split at h
        · rename_i hsz
          simp only [Bool.and_eq_true, beq_iff_eq] at hsz
          obtain ⟨hs1, rfl⟩ := hsz
          simp only [valN, Option.some.injEq] at h; subst h
          simp at hp
          cases hx with
          | @rp _ _ _ b o vs hb hl hc =>
          obtain ⟨h1, h2, h3⟩ := splitC_CR hsp hl
          obtain ⟨v1, v2, hv, k1, k2, k3, k4⟩ := CR_uncons h2
          obtain ⟨g, rfl, g0, g1, g2, g3⟩ := CR_ar k1
          have hlt : i.toNat < n' := by omega
          have hoff : off ≤ vs.length := by
            have := CR_length h1
            rw [h3] at this
            rw [List.length_take] at this; omega
          refine ⟨.pointer (some ⟨b, (o + off + i.toNat) + 0, none⟩), ?_, .rp (vs := [g i.toNat]) hb (.one ?_ (g2 _ hlt) (g1 _ hlt) .nil) ?_, rfl, rfl⟩
          · simp [Instr.indexAt, run_underlying hu, asIntOf, Instr.sureAddr, hp, run_sizeOf (hT e de hde), hs1, addr_add]
          · have := g3 _ hlt
            cases hfi : f i.toNat <;> simp [hfi, AV.flat] at this <;> rfl
          · intro j hj
            have : j = 0 := by simpa using hj
            subst this
            have hv2 := congrArg (fun l => l[i.toNat]?) hv
            simp only [List.getElem?_drop] at hv2
            rw [List.getElem?_append_left (by simpa using hlt), List.getElem?_map, List.getElem?_range hlt] at hv2
            simp only [Option.map_some] at hv2
            have hlen : off + i.toNat < vs.length := by
              rcases Nat.lt_or_ge (off + i.toNat) vs.length with h | h
              · exact h
              · rw [List.getElem?_eq_none h] at hv2; cases hv2
            have := hc (off + i.toNat) hlen
            rw [hv2] at this
            rw [show o + off + i.toNat + 0 = o + (off + i.toNat) by omega, this]; rfl
        · simp at h
      · simp at h
    · rename_i e sz n get hd
      have hu := und_slice ok hd
      split at h
      · rename_i de hde
        split at h
        · rename_i hsz
          simp only [valN, Option.some.injEq] at h; subst h
          simp at hp
          have hs1 : de.size = sz := by simpa using hsz
          obtain ⟨v, k1, k2⟩ := indexRo_run (k := k) hT (d := d) hu hde hs1 hp.1 hp.2 hx
          exact ⟨v, k1, k2, rfl, rfl⟩
        · simp at h
      · simp at h
    · rename_i e u xs hd
      have hu := und_slice ok hd
      split at h
      · rename_i de hde
        split at h
        · rename_i hsz
          simp only [valN, Option.some.injEq] at h; subst h
          simp at hp
          have hs1 : de.size = datSize u := by simpa using hsz
          obtain ⟨v, k1, k2⟩ := indexRo_run (k := k) hT (d := d) hu hde hs1 hp.1 hp.2 (vw_inv hx)
          exact ⟨v, k1, k2, rfl, rfl⟩
        · simp at h
      · simp at h
    · rename_i e id off n hd
      have hu := und_slice ok hd
      split at h
      · rename_i de hde
        split at h
        · rename_i hsz
          simp only [valN, Option.some.injEq] at h; subst h
          simp at hp
          have hs1 : de.size = 1 := by simpa using hsz
          cases hx with
          | osl _ hdm hcap hn =>
          refine ⟨.pointer (some ⟨C.ρ id, off + i.toNat, none⟩), ?_, .ptr _ hdm, rfl, rfl⟩
          simp [Instr.indexAt, run_underlying hu, asIntOf, hp, run_sizeOf (hT e de hde), hs1, addr_add]
        · simp at h
      · simp at h
    · simp at h
  · simp at h

theorem evIndex_run (hT : TyOk P T) {t : TypeId} {x ix : AV} {X I : Value} {r : OpR} (h : evIndex T t x ix = some r) (hp : ∀ c ∈ r.pre, c = true) (hx : VR C x X) (hi : VR C ix I) :
    ∃ v, (Instr.index t X I).run P C.w = .ok v C.w ∧ VR C r.v v ∧ r.wr = [] ∧ r.al = [] := by
  unfold evIndex at h
  split at h
  · rename_i d i ht hix
    obtain ⟨k, rfl⟩ := ixI_VR hix hi
    have ok := hT t d ht
    split at h
    · rename_i n e n' f hd
      have hu := und_array ok hd
      split at h
      · rename_i de hde
        split at h
        · rename_i hsz
          simp only [Bool.and_eq_true, beq_iff_eq, Bool.not_eq_true'] at hsz
          obtain ⟨⟨rfl, hs1⟩, hag⟩ := hsz
          simp only [valN, Option.some.injEq] at h; subst h
          simp at hp
          cases hx with
          | agg hl =>
          obtain ⟨g, rfl, h0, h1, h2, _⟩ := CR_ar hl
          have hlt : i.toNat < n' := by omega
          refine ⟨g i.toNat, ?_, (h1 _ hlt).mono C.bare_le, rfl, rfl⟩
          simp [Instr.index, run_underlying hu, asIntOf, hp, run_sizeOf (hT e de hde), hs1, part, run_isAgg (hT e de hde), hag, hlt]
        · simp at h
      · simp at h
    · rename_i s hd
      have hu := und_string ok hd
      simp only [valN, Option.some.injEq] at h; subst h
      simp at hp
      cases hx with
      | str =>
      have hlt : i.toNat < s.length := by omega
      refine ⟨.int .u8 ((s.getD i.toNat 0).toBitVec.toNat : Int), ?_, .u rfl, rfl, rfl⟩
      have hget : (⟨s.toArray⟩ : ByteArray)[i.toNat]? = some (s.getD i.toNat 0) := by
        rw [getElem?_pos (⟨s.toArray⟩ : ByteArray) i.toNat (by simpa [ByteArray.size] using hlt)]
        simp [ByteArray.getElem_eq_getElem_data, List.getD, hlt]
      simp [Instr.index, run_underlying hu, asIntOf, hp, hget]
    · simp at h
  · simp at h

theorem evBuiltin_run (hT : TyOk P T) {b : Builtin} {ts : Array TypeId} {ty : TypeId} {cs : Array Bool} {vs : List AV} {Vs : List Value} {r : OpR} (h : evBuiltin T b ts.toList vs = some r) (hv : TR C vs Vs) :
    ∃ v, (builtin b ts ty cs Vs.toArray).run P C.w = .ok (.value v) C.w ∧ VR C r.v v ∧ r.pre = [] ∧ r.wr = [] ∧ r.al = [] := by
  unfold evBuiltin at h
  split at h
  · rename_i t trest x hts
    have ht0 : ts[0]? = some t := by rw [← Array.getElem?_toList, hts]; rfl
    split at h
    · rename_i d ht
      have ok := hT t d ht
      cases hv with
      | @cons _ _ X _ _ hx hnil =>
      cases hnil
      have hlen : ∀ n : Nat, n ≤ 9223372036854775807 → VR C (.i .i64 (n : Int)) (.int .i64 (n : Int)) := fun n hn => .i rfl (by simp [IntKind.has, IntKind.min, IntKind.max, IntKind.bits, IntKind.signed]; omega)
      have hts' : ts[0]? = some t := ht0
      have hro : ∀ {e sz n : Nat} {get : Nat → List AV}, P.underlying t = some (.slice e) → VR C (.ro sz n get) X → ∃ v, (builtin .len ts ty cs [X].toArray).run P C.w = .ok (.value v) C.w ∧ VR C (.i .i64 (n : Int)) v ∧ ([] : List Bool) = [] ∧ ([] : List (Key × AV)) = [] ∧ ([] : List (Nat × Nat)) = [] := by
        intro e sz n get hu hx
        cases hx with
        | ro hb hc hl hcell hcap hn =>
          refine ⟨.int .i64 (n : Int), ?_, hlen _ hn, rfl, rfl, rfl⟩
          simp [builtin, Builtin.len_, hts', run_underlying hu, goInt]
        | ro0 =>
          refine ⟨.int .i64 0, ?_, hlen 0 (by decide), rfl, rfl, rfl⟩
          simp [builtin, Builtin.len_, hts', run_underlying hu, goInt]
        | roE =>
          refine ⟨.int .i64 0, ?_, hlen 0 (by decide), rfl, rfl, rfl⟩
          simp [builtin, Builtin.len_, hts', run_underlying hu, goInt]
      split at h
      · rename_i s hd
        have hu := und_string ok hd
        simp only [val, Option.some.injEq] at h; subst h
        cases hx with
        | str _ hl =>
        refine ⟨.int .i64 (s.length : Int), ?_, hlen _ hl, rfl, rfl, rfl⟩
        have hsz : (⟨s.toArray⟩ : ByteArray).size = s.length := rfl
        simp [builtin, Builtin.len_, hts', run_underlying hu, goInt, hsz]
      · rename_i e sz n get hd
        have hu := und_slice ok hd
        simp only [val, Option.some.injEq] at h; subst h
        exact hro hu hx
      · rename_i e u xs hd
        have hu := und_slice ok hd
        simp only [val, Option.some.injEq] at h; subst h
        exact hro hu (vw_inv hx)
      · rename_i e hd
        have hu := und_slice ok hd
        simp only [val, Option.some.injEq] at h; subst h
        cases hx with
        | nils =>
        refine ⟨.int .i64 0, ?_, hlen 0 (by decide), rfl, rfl, rfl⟩
        simp [builtin, Builtin.len_, hts', run_underlying hu, goInt]
      · rename_i e id off n hd
        have hu := und_slice ok hd
        simp only [val, Option.some.injEq] at h; subst h
        cases hx with
        | osl _ hdm hcap hn =>
        refine ⟨.int .i64 (n : Int), ?_, hlen n hn, rfl, rfl, rfl⟩
        simp [builtin, Builtin.len_, hts', run_underlying hu, goInt]
      · simp at h
    · simp at h
  · split at h
    · rename_i k a k' b e
      subst e
      simp only [val, Option.some.injEq] at h; subst h
      cases hv with
      | cons hx hnil =>
      cases hnil with
      | cons hy hnil =>
      cases hnil
      cases hx with
      | i hk hx =>
      cases hy with
      | i _ hy =>
      refine ⟨.int k' (if b < a then b else a), ?_, ?_, rfl, rfl, rfl⟩
      · simp [builtin, Builtin.min_, Builtin.min2]
      · by_cases c : b < a
        · rw [if_pos c, decide_eq_true c]; exact .i hk hy
        · rw [if_neg c, decide_eq_false c]; exact .i hk hx
    · cases h
  · split at h
    · rename_i k a k' b e
      subst e
      simp only [val, Option.some.injEq] at h; subst h
      cases hv with
      | cons hx hnil =>
      cases hnil with
      | cons hy hnil =>
      cases hnil
      cases hx with
      | i hk hx =>
      cases hy with
      | i _ hy =>
      refine ⟨.int k' (if b > a then b else a), ?_, ?_, rfl, rfl, rfl⟩
      · simp [builtin, Builtin.max_, Builtin.max2]
      · by_cases c : a < b
        · rw [if_pos c, decide_eq_true c]; exact .i hk hy
        · rw [if_neg c, decide_eq_false c]; exact .i hk hx
    · cases h
  · simp at h

/-- What a call has come to, behind it. -/
theorem after_of_done [Glob] {r : OpR} {v : Value} {w' : World} (h : SR w0 E R0 M C) (hw : r.wr = []) (ha : r.al = []) (hx : ∃ R', Done C.w C.R r.v v w' R') : ∃ C' : Ctx, C'.w = w' ∧ After w0 E R0 M C r v C' := by
  obtain ⟨R', hd⟩ := hx
  have hle : C.Le { C with w := w', R := R' } := ⟨fun i hi => ⟨hi, rfl⟩, fun b hb => ⟨hd.more b hb, hd.fr.block b (h.own.R_lt b hb) (fun e => e)⟩, fun _ _ h => ⟨h, rfl⟩⟩
  have hsame : ∀ i, C.blk i → w'.heap[C.ρ i]? = C.w.heap[C.ρ i]? := fun i hi => hd.fr.block _ (h.own.lt i hi) (fun e => e)
  have hu : updK M r.wr = M := by rw [hw]; rfl
  refine ⟨{ C with w := w', R := R' }, rfl, hle, ?_, ?_, fun i hi => .inl ⟨hi, rfl⟩⟩
  · exact VR.mono (C := baseC w' R') (C' := { C with w := w', R := R' }) ⟨fun _ h => h.elim, fun b hb => ⟨hb, rfl⟩, fun _ _ h => h.elim⟩ hd.res
  rw [hu]
  refine ⟨⟨?_, fun id off x hx hs => (h.mr.sp id off x hx hs).congr ⟨.rfl, .rfl, .rfl, fun _ => rfl, fun _ => .rfl, fun _ _ => rfl, fun hb => hsame id hb⟩ hle.R, h.mr.apart⟩, ⟨?_, ?_, ?_, h.own.inj, hd.lt, fun i hi => (objSize_of (hsame i (.inl hi))).trans (h.own.sized i hi), h.own.dis, h.own.liv, h.own.rsz, h.own.hokr⟩, h.fr.trans hd.fr, h.mine, ⟨fun b hb => hd.more b (h.rr.1 b hb), fun b hb => (hd.new b hb).elim (h.rr.2 b) (fun h' => .inr (Nat.le_trans h.fr.size h'))⟩, h.keep, Glob.mono h.gl hle.R, h.rown⟩
  · intro id off x hx hsx
    obtain ⟨h1, us, h2, h3⟩ := h.mr.at_ id off x hx hsx
    refine ⟨h1, us, h2.mono hle, ?_⟩
    intro j u hj
    rw [cell_of_block (hsame id (.inl h1))]
    exact h3 j u hj
  · intro i hi; have h1 := h.own.lt i hi; have h2 := hd.fr.size; exact Nat.lt_of_lt_of_le h1 h2
  · intro i hi o
    have := h.own.unfrozen i hi o
    unfold World.frozen? at this ⊢
    rw [hsame i hi]; exact this
  · intro i hi hR
    rcases hd.new _ hR with h1 | h1
    · exact h.own.apart i hi h1
    · have h2 := h.own.lt i hi; exact absurd h2 (Nat.not_lt.2 h1)

/-! ### Calls -/
theorem readC_has {M : Key → Option AV} {id : Nat} : ∀ {fuel off n : Nat} {l p q : List AV} {a : AV}, readC M id fuel off n = some l → l = p ++ a :: q → M (id, off + widthC p) = some a
  | 0, off, n, l, p, q, a, h, e => by
    simp [readC] at h; subst h
    simp at e
  | fuel + 1, off, 0, l, p, q, a, h, e => by
    simp [readC] at h; subst h
    simp at e
  | fuel + 1, off, n + 1, l, p, q, a, h, e => by
    simp only [readC] at h
    cases hm : M (id, off) with
    | none => simp [hm] at h
    | some x =>
      simp only [hm] at h
      cases hb : Nat.ble x.width (n + 1) && !x.spec with
      | false => simp [hb] at h
      | true =>
        simp only [hb] at h
        cases hr : readC M id fuel (off + x.width) (n + 1 - x.width) with
        | none => simp [hr] at h
        | some l' =>
          simp only [hr, Option.some.injEq] at h; subst h
          cases p with
          | nil =>
            simp only [List.nil_append, List.cons.injEq] at e
            obtain ⟨rfl, rfl⟩ := e
            simpa [widthC] using hm
          | cons y p =>
            simp only [List.cons_append, List.cons.injEq] at e
            obtain ⟨rfl, rfl⟩ := e
            have := readC_has (p := p) hr rfl
            rwa [show off + widthC (x :: p) = off + x.width + widthC p by simp [widthC]; omega]

theorem readC_cover {C : Ctx} {M : Key → Option AV} (hM : MR C M) {id : Nat} : ∀ {fuel off n : Nat} {l : List AV} {o : Nat} {a : AV}, n ≤ fuel → readC M id fuel off n = some l → M (id, o) = some a → off ≤ o → o < off + n → ∃ p q, l = p ++ a :: q ∧ o = off + widthC p
  | 0, off, n, l, o, a, hf, h, ha, h1, h2 => by omega
  | fuel + 1, off, 0, l, o, a, hf, h, ha, h1, h2 => by omega
  | fuel + 1, off, n + 1, l, o, a, hf, h, ha, h1, h2 => by
    simp only [readC] at h
    cases hm : M (id, off) with
    | none => simp [hm] at h
    | some x =>
      simp only [hm] at h
      cases hb : Nat.ble x.width (n + 1) && !x.spec with
      | false => simp [hb] at h
      | true =>
        simp only [hb] at h
        simp only [Bool.and_eq_true, Bool.not_eq_true'] at hb
        obtain ⟨hb, hsp⟩ := hb
        have hle := Nat.le_of_ble_eq_true hb
        cases hr : readC M id fuel (off + x.width) (n + 1 - x.width) with
        | none => simp [hr] at h
        | some l' =>
          simp only [hr, Option.some.injEq] at h; subst h
          by_cases e : o = off
          · subst e
            rw [hm] at ha; simp only [Option.some.injEq] at ha; subst ha
            exact ⟨[], l', rfl, by simp [widthC]⟩
          · have hap := hM.apart _ _ _ _ _ hm ha (by omega)
            obtain ⟨_, vs, hx, _⟩ := hM.at_ _ _ _ hm hsp
            obtain ⟨_, _, _, _, _, _, hpos⟩ := CR_uncons hx
            obtain ⟨p, q, e1, e2⟩ := readC_cover hM (by omega) hr ha hap (by omega)
            exact ⟨x :: p, q, by rw [e1]; rfl, by simp [widthC]; omega⟩

theorem keysAcc_acc {id : Nat} {k : Key} : ∀ {l : List AV} {off : Nat} {acc : List (Key × AV)}, (look acc k).isSome = true → (look (keysAcc id off l acc) k).isSome = true
  | [], off, acc, h => h
  | x :: l, off, acc, h => by
    unfold keysAcc
    refine keysAcc_acc ?_
    simp only [look]
    cases (id, off) == k
    · exact h
    · rfl
theorem keysAcc_has {id : Nat} : ∀ {l : List AV} {off : Nat} {acc : List (Key × AV)} {p q : List AV} {a : AV}, l = p ++ a :: q → (look (keysAcc id off l acc) (id, off + widthC p)).isSome = true
  | [], off, acc, p, q, a, e => by simp at e
  | x :: l, off, acc, p, q, a, e => by
    unfold keysAcc
    cases p with
    | nil =>
      refine keysAcc_acc ?_
      simp [look, widthC]
    | cons y p =>
      simp only [List.cons_append, List.cons.injEq] at e
      obtain ⟨rfl, rfl⟩ := e
      have := keysAcc_has (id := id) (off := off + x.width) (acc := ((id, off), x) :: acc) (p := p) (q := q) (a := a) rfl
      rwa [show off + widthC (x :: p) = off + x.width + widthC p by simp [widthC]; omega]

theorem look_outKeys {k : Key} {a : AV} : ∀ {os : List (Nat × Nat × List AV)} {cs : List (List AV)} {wr : List (Key × AV)}, outKeys os cs = some wr → look wr k = some a →
    ∃ (i id n : Nat) (l c p q : List AV), os[i]? = some (id, n, l) ∧ cs[i]? = some c ∧ l.map AV.width = c.map AV.width ∧ c = p ++ a :: q ∧ k = (id, widthC p)
  | [], [], wr, h, hk => by simp [outKeys] at h; subst h; simp [look] at hk
  | (id, n, l) :: os, c :: cs, wr, h, hk => by
    simp only [outKeys] at h
    split at h
    · rename_i r hc hr
      simp only [Option.some.injEq] at h; subst h
      simp only [Bool.and_eq_true, beq_iff_eq] at hc
      rcases look_keysAcc hk with ⟨p, q, e, hk'⟩ | h'
      · exact ⟨0, id, n, l, c, p, q, rfl, rfl, hc.1, e, by simpa using hk'⟩
      · obtain ⟨i, id', n', l', c', p, q, h1, h2, h3⟩ := look_outKeys hr h'
        exact ⟨i + 1, id', n', l', c', p, q, by simpa using h1, by simpa using h2, h3⟩
    · simp at h
  | [], _ :: _, wr, h, hk => by simp [outKeys] at h
  | _ :: _, [], wr, h, hk => by simp [outKeys] at h
theorem outKeys_has {id n : Nat} {l c p q : List AV} {a : AV} : ∀ {os : List (Nat × Nat × List AV)} {cs : List (List AV)} {wr : List (Key × AV)} {i : Nat}, outKeys os cs = some wr → os[i]? = some (id, n, l) → cs[i]? = some c → c = p ++ a :: q → (look wr (id, widthC p)).isSome = true
  | [], cs, wr, i, h, h1, h2, e => by simp at h1
  | (id', n', l') :: os, [], wr, i, h, h1, h2, e => by simp at h2
  | (id', n', l') :: os, c' :: cs, wr, i, h, h1, h2, e => by
    simp only [outKeys] at h
    split at h
    · rename_i r hc hr
      simp only [Option.some.injEq] at h; subst h
      cases i with
      | zero =>
        simp only [List.getElem?_cons_zero, Option.some.injEq, Prod.mk.injEq] at h1 h2
        obtain ⟨rfl, rfl, rfl⟩ := h1
        subst h2
        have := keysAcc_has (id := id') (off := 0) (acc := r) e
        rwa [Nat.zero_add] at this
      | succ i => exact keysAcc_acc (outKeys_has hr (by simpa using h1) (by simpa using h2) e)
    · simp at h
theorem outKeys_at {id n : Nat} {l : List AV} : ∀ {os : List (Nat × Nat × List AV)} {cs : List (List AV)} {wr : List (Key × AV)} {i : Nat}, outKeys os cs = some wr → os[i]? = some (id, n, l) → ∃ c, cs[i]? = some c ∧ l.map AV.width = c.map AV.width
  | [], cs, wr, i, h, h1 => by simp at h1
  | (id', n', l') :: os, [], wr, i, h, h1 => by simp [outKeys] at h
  | (id', n', l') :: os, c' :: cs, wr, i, h, h1 => by
    simp only [outKeys] at h
    split at h
    · rename_i r hc hr
      simp only [Bool.and_eq_true, beq_iff_eq] at hc
      cases i with
      | zero =>
        simp only [List.getElem?_cons_zero, Option.some.injEq, Prod.mk.injEq] at h1
        obtain ⟨rfl, rfl, rfl⟩ := h1
        exact ⟨c', rfl, hc.1⟩
      | succ i => simpa using outKeys_at hr (by simpa using h1)
    · simp at h
theorem OutR_at {w : World} {R : Nat → Prop} {b : Nat} {l c : List AV} : ∀ {os : List (Nat × List AV)} {cs : List (List AV)} {i : Nat}, OutR w R os cs → os[i]? = some (b, l) → cs[i]? = some c → ObjR w R b c
  | _, _, i, .nil, h1, h2 => by simp at h1
  | _, _, 0, .cons h hl, h1, h2 => by
    simp only [List.getElem?_cons_zero, Option.some.injEq, Prod.mk.injEq] at h1 h2
    obtain ⟨rfl, rfl⟩ := h1
    subst h2
    exact h
  | _, _, i + 1, .cons h hl, h1, h2 => OutR_at hl (by simpa using h1) (by simpa using h2)
theorem widths_split {l c p q : List AV} {a : AV} (h : l.map AV.width = c.map AV.width) (hc : c = p ++ a :: q) : ∃ p' a' q', l = p' ++ a' :: q' ∧ widthC p' = widthC p ∧ a'.width = a.width := by
  subst hc
  have hl : l.length = (p ++ a :: q).length := by have := congrArg List.length h; simpa using this
  have hlt : p.length < l.length := by rw [hl]; simp
  refine ⟨l.take p.length, l[p.length], l.drop (p.length + 1), by simp, ?_, ?_⟩
  · have : ∀ x : List AV, widthC x = (x.map AV.width).sum := fun x => by
      induction x with
      | nil => rfl
      | cons y x ih => simp [widthC, ih]
    rw [this, this, List.map_take, h, List.map_append, List.take_left' (by simp)]
  · have := congrArg (fun x => x[p.length]?) h
    simp only [List.getElem?_map] at this
    rw [List.getElem?_eq_getElem hlt] at this
    simpa using this

/-- Of which sizes one's own objects are. -/
def Sized (ids : List (Nat × Nat)) (C : Ctx) : Prop := ∀ id n, sizeIn ids id = some n → ids.all (fun x => !(x.1 == id) || x.2 == n) = true → C.dom id → C.sz id = n

theorem own_spec [Glob] {ids : List (Nat × Nat)} (h : SR w0 E R0 M C) (hz : Sized ids C) : ∀ {vs : List AV} {Vs : List Value} {os : List (Nat × Nat × List AV)}, ownArgs ids M vs = some os → TR C vs Vs →
    TR (baseC C.w fun b => C.R b ∨ ∃ id, C.dom id ∧ b = C.ρ id) (roArgs vs os) Vs ∧ AR C.w C.R (rwArgs vs os) Vs (os.map fun x => (C.ρ x.1, x.2.2)) ∧
    (∀ x ∈ os, C.dom x.1 ∧ readC M x.1 x.2.1 0 x.2.1 = some x.2.2 ∧ C.sz x.1 = x.2.1) ∧ (os = [] → vs.all bareV = true)
  | [], _, os, ho, .nil => by
    simp only [ownArgs, Option.some.injEq] at ho; subst ho
    exact ⟨.nil, .nil, (fun x hx => by cases hx), fun _ => rfl⟩
  | a :: as, _, os, ho, .cons (v := V) (vs := Vs) hv hl => by
    have other : (match bareV a with | true => ownArgs ids M as | false => none) = some os → (∀ i o, a ≠ .ptr i o) → TR (baseC C.w fun b => C.R b ∨ ∃ id, C.dom id ∧ b = C.ρ id) (roArgs (a :: as) os) (V :: Vs) ∧ AR C.w C.R (rwArgs (a :: as) os) (V :: Vs) (os.map fun x => (C.ρ x.1, x.2.2)) ∧
        (∀ x ∈ os, C.dom x.1 ∧ readC M x.1 x.2.1 0 x.2.1 = some x.2.2 ∧ C.sz x.1 = x.2.1) ∧ (os = [] → (a :: as).all bareV = true) := by
      intro ho hne
      split at ho
      · rename_i hb
        obtain ⟨h1, h2, h3, h4⟩ := own_spec h hz ho hl
        have e1 : roArgs (a :: as) os = a :: roArgs as os := by
          cases a <;> first | rfl | exact (hne _ _ rfl).elim
        have e2 : rwArgs (a :: as) os = a :: rwArgs as os := by
          cases a <;> first | rfl | exact (hne _ _ rfl).elim
        refine ⟨by rw [e1]; exact .cons (bareV_VR hv hb (fun b hb => ⟨.inl hb, rfl⟩)) h1, by rw [e2]; exact .val (bareV_VR hv hb (fun b hb => ⟨hb, rfl⟩)) h2, h3, fun e => by simp [hb, h4 e]⟩
      · cases ho
    cases a with
    | ptr id off =>
      simp only [ownArgs] at ho
      split at ho
      · rename_i n hsz
        split at ho
        · rename_i l r hall hr hrest
          split at ho
          · rename_i hbare
            simp only [Option.some.injEq] at ho; subst ho
            obtain ⟨h1, h2, h3, h4⟩ := own_spec h hz hrest hl
            cases hv with
            | ptr _ hd =>
            obtain ⟨cs, c1, c2, c3⟩ := readC_run h.mr (Nat.le_refl _) hr
            have hsize := hz id n hsz hall hd
            refine ⟨?_, ?_, ?_, fun e => by cases e⟩
            · refine .cons ?_ h1
              exact VR.rp (o := 0) (.inr ⟨id, hd, rfl⟩) (bare_CR c1 hbare (fun b hb => ⟨.inl hb, rfl⟩)) (fun j hj => by
                rw [List.getElem?_eq_getElem hj]; exact c3 j _ (List.getElem?_eq_getElem hj))
            · refine .obj ⟨h.own.lt id (.inl hd), h.own.apart id (.inl hd), h.own.unfrozen id (.inl hd), cs, bare_CR c1 hbare (fun b hb => ⟨hb, rfl⟩), c3, ?_⟩ h2
              rw [h.own.sized id hd, hsize, c2]
            · intro x hx
              rcases List.mem_cons.1 hx with rfl | hx
              · exact ⟨hd, hr, hsize⟩
              · exact h3 x hx
          · cases ho
        · cases ho
      · cases ho
    | _ => exact other ho (fun i o e => by cases e)

theorem invokes_wp {o : Oper} {a : Act} {c : Call} {f : FuncId} {Vs : List Value} {Q : Exit → Act → World → Prop} {K : Act → World → Prop} {D : Value → World → Prop} (hop : o.op = .call c) (hc : c.callee = .value (.func f))
    (hargs : (c.args.map a.eval).toList = Vs) (hinv : Invokes P f Vs.toArray C.w D) (hK : ∀ v w', D v w' → K (a.put o.dst v) w') : o.wp P a C.w K Q := by
  have hVs : Vs.toArray = c.args.map a.eval := by rw [← hargs]
  rw [hVs] at hinv
  have hexec : (execOp a.eval o).run P C.w = (callFunc f (c.args.map a.eval)).run P C.w := by
    simp only [execOp, hop, resolve, hc, Act.eval, Deferred.ofValue, invoke, Sem.run_bind, Sem.run_pure, Result.andThen_ok]
    simp
  unfold Oper.wp
  rw [hexec]
  rcases hinv with ⟨v, w', h1, h2⟩ | ⟨h1, h2⟩
  · rw [h1, Oper.upon_value]; exact hK v w' h2
  · rw [h1, Oper.upon_enter]
    refine h2.mono ?_
    rintro e w' ⟨v, rfl, hd⟩
    exact hK v w' hd

theorem noDup_map {os : List (Nat × Nat × List AV)} (hn : nodupD (os.map (·.1)) = true) (hi : ∀ x ∈ os, ∀ y ∈ os, C.ρ x.1 = C.ρ y.1 → x.1 = y.1) : ((os.map fun x => (C.ρ x.1, x.2.2)).map (·.1)).Nodup := by
  induction os with
  | nil => simp
  | cons x os ih =>
    simp only [List.map_cons, nodupD, Bool.and_eq_true, Bool.not_eq_true'] at hn
    simp only [List.map_cons, List.nodup_cons]
    refine ⟨?_, ih hn.2 (fun x hx y hy => hi x (List.mem_cons_of_mem _ hx) y (List.mem_cons_of_mem _ hy))⟩
    intro hm
    simp only [List.map_map, List.mem_map, Function.comp] at hm
    obtain ⟨y, hy, e⟩ := hm
    have := hi y (List.mem_cons_of_mem _ hy) x (List.mem_cons_self ..) e
    have hc : (os.map (·.1)).contains x.1 = true := by
      simp only [List.contains_iff_mem, List.mem_map]
      exact ⟨y, hy, this⟩
    rw [hc] at hn; simp at hn

theorem split_apart : ∀ {p1 p2 q1 q2 : List AV} {x1 x2 : AV}, p1 ++ x1 :: q1 = p2 ++ x2 :: q2 → widthC p1 < widthC p2 → widthC p1 + x1.width ≤ widthC p2
  | [], [], _, _, _, _, _, h => by omega
  | [], y :: p2, q1, q2, x1, x2, e, h => by
    simp only [List.nil_append, List.cons_append, List.cons.injEq] at e
    obtain ⟨rfl, _⟩ := e
    simp [widthC]
  | y :: p1, [], _, _, _, _, e, h => by simp [widthC] at h
  | y :: p1, z :: p2, q1, q2, x1, x2, e, h => by
    simp only [List.cons_append, List.cons.injEq] at e
    obtain ⟨rfl, e⟩ := e
    simp only [widthC] at h ⊢
    have := split_apart e (by omega)
    omega

/-- A new object, handed back by a call. -/
theorem after_new [Glob] {v : Value} {w' : World} {id : Nat} {l : List AV} (h : SR w0 E R0 M C) (hid : ¬ C.has id) (hK : ∀ b n, ¬ E.K id b n) (hb : l.all bare1 = true) (hx : ∃ R', DoneP C.w C.R l v w' R') (pre : List Bool) :
    ∃ C' : Ctx, C'.w = w' ∧ After w0 E R0 M C ⟨pre, .ptr id 0, [], keysAcc id 0 l [], [(id, widthC l)]⟩ v C' := by
  obtain ⟨R', hd⟩ := hx
  obtain ⟨b, rfl, hbn, hobj⟩ := hd.val
  obtain ⟨cs, c1, c2, c3⟩ := hobj.cells
  have hne : ∀ i, C.dom i → i ≠ id := fun i hi e => hid (e ▸ .inl hi)
  have hrow : ¬ C.row id := fun h => hid (.inr h)
  have hle : C.Le { C with w := w', ρ := fun i => if i = id then b else C.ρ i, dom := fun i => C.dom i ∨ i = id, R := R', sz := fun i => if i = id then widthC l else C.sz i } := by
    refine ⟨fun i hi => ⟨.inl hi, by simp [hne i hi]⟩, fun b hb => ⟨hd.more b hb, hd.fr.block b (h.own.R_lt b hb) (fun e => e)⟩, fun _ _ h => ⟨h, rfl⟩⟩
  have hsame : ∀ i, C.blk i → w'.heap[C.ρ i]? = C.w.heap[C.ρ i]? := fun i hi => hd.fr.block _ (h.own.lt i hi) (fun e => e)
  have hle2 : (baseC w' R').Le { C with w := w', ρ := fun i => if i = id then b else C.ρ i, dom := fun i => C.dom i ∨ i = id, R := R', sz := fun i => if i = id then widthC l else C.sz i } := ⟨fun _ h => h.elim, fun b hb => ⟨hb, rfl⟩, fun _ _ h => h.elim⟩
  have hnone : ∀ o, M (id, o) = none := fun o => by
    cases hm : M (id, o) with
    | none => rfl
    | some a => exact (hid (h.mr.has hm)).elim
  refine ⟨{ C with w := w', ρ := fun i => if i = id then b else C.ρ i, dom := fun i => C.dom i ∨ i = id, R := R', sz := fun i => if i = id then widthC l else C.sz i }, rfl, hle, ?_, ⟨⟨?_, ?_, ?_⟩, ⟨?_, ?_, ?_, ?_, hd.lt, ?_, ?_, h.own.liv, ?_, h.own.hokr⟩, h.fr.trans hd.fr, ?_, ⟨fun b hb => hd.more b (h.rr.1 b hb), fun b hb => (hd.new b hb).elim (h.rr.2 b) (fun h' => .inr (Nat.le_trans h.fr.size h'))⟩, ?_, Glob.mono h.gl hle.R, (fun i hi => by have hn : i ≠ id := fun e => hrow (e ▸ h.own.liv i hi); simpa only [hn, if_false] using h.rown i hi)⟩, ?_⟩
  · have := VR.ptr (C := { C with w := w', ρ := fun i => if i = id then b else C.ρ i, dom := fun i => C.dom i ∨ i = id, R := R', sz := fun i => if i = id then widthC l else C.sz i }) (id := id) 0 (.inr rfl)
    simpa using this
  · intro id' off a ha hsa
    unfold updK at ha
    split at ha
    · rename_i x hx
      simp only [Option.some.injEq] at ha; subst ha
      rcases look_keysAcc hx with ⟨p, q, e, hk⟩ | h'
      · simp only [Prod.mk.injEq] at hk
        obtain ⟨rfl, rfl⟩ := hk
        rw [e] at c1
        obtain ⟨v1, v2, rfl, h1, h2⟩ := CR_split c1
        obtain ⟨v3, v4, rfl, h3, h4, h5, h6⟩ := CR_uncons h2
        refine ⟨.inr rfl, v3, h3.mono hle2, ?_⟩
        intro j u hj
        have hjl := lt_of_getElem? hj
        simp only [if_true]
        have := c2 (v1.length + j) u (by rw [List.getElem?_append_right (by omega), List.getElem?_append_left (by omega)]; simpa using hj)
        rw [CR_length h1] at this
        rw [Nat.add_assoc]; exact this
      · simp [look] at h'
    · obtain ⟨hd', us, hu, huc⟩ := h.mr.at_ id' off a ha hsa
      refine ⟨.inl hd', us, hu.mono hle, ?_⟩
      intro j u hj
      simp only [hne id' hd', if_false]
      rw [cell_of_block (hsame id' (.inl hd'))]
      exact huc j u hj
  · intro id' off a ha hsa
    unfold updK at ha
    split at ha
    · rename_i x hx
      simp only [Option.some.injEq] at ha; subst ha
      rcases look_keysAcc hx with ⟨p, q, e, hk⟩ | h'
      · rw [e] at c1
        obtain ⟨v1, v2, hv, h1, h2⟩ := CR_split c1
        rw [CR_spec h2] at hsa; cases hsa
      · simp [look] at h'
    · have hsp := h.mr.sp id' off a ha hsa
      have hn : id' ≠ id := fun e => hid (e ▸ hsp.has)
      exact hsp.congr ⟨by simp [hn], .rfl, .rfl, fun _ => by simp [hn], fun _ => .rfl, fun _ _ => rfl, fun hb => hsame id' hb⟩ hle.R
  · intro id' o1 o2 a1 a2 h1 h2 hlt
    unfold updK at h1 h2
    split at h1
    · rename_i x1 hx1
      simp only [Option.some.injEq] at h1; subst h1
      rcases look_keysAcc hx1 with ⟨p1, q1, e1, k1⟩ | h'
      · simp only [Prod.mk.injEq] at k1
        obtain ⟨rfl, rfl⟩ := k1
        split at h2
        · rename_i x2 hx2
          simp only [Option.some.injEq] at h2; subst h2
          rcases look_keysAcc hx2 with ⟨p2, q2, e2, k2⟩ | h'
          · simp only [Prod.mk.injEq, true_and] at k2
            subst k2
            have := split_apart (e1.symm.trans e2) (by omega)
            omega
          · simp [look] at h'
        · rw [hnone] at h2; cases h2
      · simp [look] at h'
    · split at h2
      · rename_i x2 hx2
        rcases look_keysAcc hx2 with ⟨p2, q2, e2, k2⟩ | h'
        · simp only [Prod.mk.injEq] at k2
          obtain ⟨rfl, _⟩ := k2
          rw [hnone] at h1; cases h1
        · simp [look] at h'
      · exact h.mr.apart _ _ _ _ _ h1 h2 hlt
  · intro i hi
    replace hi := or_swap3 hi
    by_cases e : i = id
    · simp only [e, if_true]; exact hobj.lt
    · simp only [e, if_false]
      exact Nat.lt_of_lt_of_le (h.own.lt i (hi.resolve_right e)) hd.fr.size
  · intro i hi o
    replace hi := or_swap3 hi
    by_cases e : i = id
    · simp only [e, if_true]; exact hobj.unfrozen o
    · simp only [e, if_false]
      have := h.own.unfrozen i (hi.resolve_right e) o
      unfold World.frozen? at this ⊢
      rw [hsame i (hi.resolve_right e)]; exact this
  · intro i hi
    replace hi := or_swap3 hi
    by_cases e : i = id
    · simp only [e, if_true]; exact hobj.apart
    · simp only [e, if_false]
      intro hR
      rcases hd.new _ hR with h1 | h1
      · exact h.own.apart i (hi.resolve_right e) h1
      · exact absurd (h.own.lt i (hi.resolve_right e)) (Nat.not_lt.2 h1)
  · intro x y hx hy hxy
    replace hx := or_swap3 hx
    replace hy := or_swap3 hy
    by_cases ex : x = id <;> by_cases ey : y = id
    · rw [ex, ey]
    · simp only [ex, ey, if_true, if_false] at hxy
      have := h.own.lt y (hy.resolve_right ey); omega
    · simp only [ex, ey, if_true, if_false] at hxy
      have := h.own.lt x (hx.resolve_right ex); omega
    · simp only [ex, ey, if_false] at hxy
      exact h.own.inj x y (hx.resolve_right ex) (hy.resolve_right ey) hxy
  · intro i hi
    by_cases e : i = id
    · simp only [e, if_true]; rw [c3, CR_length c1]
    · simp only [e, if_false]
      rw [objSize_of (hsame i (.inl (hi.resolve_right e)))]; exact h.own.sized i (hi.resolve_right e)
  · intro i hi
    rcases hi with hi | hi
    · exact h.own.dis i hi
    · exact hi ▸ hrow
  · intro i hi
    have hn : i ≠ id := fun e => hrow (e ▸ hi)
    simp only [hn, if_false]
    exact h.own.rsz i hi
  · intro i hi
    replace hi := or_swap3 hi
    by_cases e : i = id
    · simp only [e, if_true]; left; exact Nat.le_trans h.fr.size hbn
    · simp only [e, if_false]; exact h.mine i (hi.resolve_right e)
  · intro i b n hk hi
    by_cases e : i = id
    · subst e; exact (hK b n hk).elim
    · simp only [e, if_false]; exact h.keep i b n hk (hi.resolve_right e)
  · intro i hi
    replace hi : C.has i ∨ i = id := or_swap3 hi
    by_cases e : i = id
    · right; simp [e]
    · left; exact ⟨hi.resolve_right e, by simp [e]⟩

theorem evCall_wp [Glob] (hS : ∀ f, FnOk P f (S f)) {ids : List (Nat × Nat)} {o : Oper} (hids : ∀ id, o.dst = some id → sizeIn ids id = none → ¬ C.has id) (hkd : ∀ id, o.dst = some id → ∀ b n, ¬ E.K id b n) (hz : Sized ids C) {a : Act} {c : Call} {f : FuncId} {vs : List AV} {Vs : List Value} {r : OpR} {Q : Exit → Act → World → Prop} {K : Act → World → Prop} (h : SR w0 E R0 M C) (hop : o.op = .call c) (hc : c.callee = .value (.func f)) (hr : evCall S ids M o.dst f vs = some r) (hp : ∀ c ∈ r.pre, c = true)
    (hargs : (c.args.map a.eval).toList = Vs) (hv : TR C vs Vs) (hK : ∀ v C', After w0 E R0 M C r v C' → K (a.put o.dst v) C'.w) : o.wp P a C.w K Q := by
  unfold evCall at hr
  split at hr
  · cases hr
  · rename_i hlt
    have hlt : f < offO := Nat.le_of_ble_eq_true hlt
    split at hr
    · rename_i hos
      obtain ⟨_, _, _, h4⟩ := own_spec h hz hos hv
      have hb := h4 rfl
      split at hr
      · rename_i res hres
        split at hr
        · simp only [Option.some.injEq] at hr; subst hr
          refine invokes_wp hop hc hargs ((hS f).1 hlt vs res hres hp C.w C.R Vs h.own.R_lt h.gl (bareV_TR hv hb (fun b hb => ⟨hb, rfl⟩))) ?_
          intro v w' hd
          obtain ⟨C', e, haft⟩ := after_of_done (r := ⟨res.pre, res.res, [], [], []⟩) h rfl rfl hd
          rw [← e]; exact hK v C' haft
        · cases hr
      · split at hr
        · rename_i res d hres hdst
          split at hr
          · rename_i l hobj hsz
            split at hr
            · rename_i hbl
              simp only [Option.some.injEq] at hr; subst hr
              have hP := (((hS (2000000 + f)).2 (Nat.le_trans (by decide) (Nat.le_add_right 2000000 f))).2 (Nat.le_add_right _ _)).1 (Nat.add_lt_add_left hlt 2000000)
              rw [show 2000000 + f - offP = f from Nat.add_sub_cancel_left ..] at hP
              obtain ⟨l', hl', hinv⟩ := hP vs res hres hp C.w C.R Vs h.own.R_lt h.gl (bareV_TR hv hb (fun b hb => ⟨hb, rfl⟩))
              rw [hobj] at hl'
              cases hl'
              refine invokes_wp hop hc hargs hinv ?_
              intro v w' hd
              obtain ⟨C', e, haft⟩ := after_new h (hids d hdst hsz) (hkd d hdst) hbl hd res.pre
              rw [← e]; exact hK v C' haft
            · cases hr
          · cases hr
        · cases hr
    · rename_i os hne hos
      obtain ⟨h1, h2, h3, h4⟩ := own_spec h hz hos hv
      split at hr
      · rename_i res hres
        split at hr
        · rename_i hflat
          simp only [Option.some.injEq] at hr; subst hr
          refine invokes_wp hop hc hargs ((hS f).1 hlt _ res hres hp C.w _ Vs ?_ (Glob.mono h.gl fun b hb => ⟨.inl hb, rfl⟩) h1) ?_
          · rintro b (hb | ⟨id, hd, rfl⟩)
            · exact h.own.R_lt b hb
            · exact h.own.lt id (.inl hd)
          · rintro v w' ⟨R', hd⟩
            have hd' : Done C.w C.R res.res v w' C.R := ⟨fun b hb => hb, fun b hb => .inl hb, fun b hb => Nat.lt_of_lt_of_le (h.own.R_lt b hb) hd.fr.size, hd.fr, flatR_VR hd.res hflat⟩
            obtain ⟨C', e, haft⟩ := after_of_done (r := ⟨res.pre, res.res, rdKeys os, [], []⟩) h rfl rfl ⟨C.R, hd'⟩
            rw [← e]; exact hK v C' haft
        · cases hr
      · split at hr
        · rename_i res hres hnd
          simp only [Bool.and_eq_true] at hnd
          obtain ⟨hnd, hpos0⟩ := hnd
          split at hr
          · rename_i wr hwr
            simp only [Option.some.injEq] at hr; subst hr
            have hinv := ((hS (1000000 + f)).2 (Nat.le_add_right _ _)).1 (show 1000000 + f < 2000000 from Nat.add_lt_add_left hlt 1000000)
            rw [show 1000000 + f - offO = f from Nat.add_sub_cancel_left ..] at hinv
            refine invokes_wp hop hc hargs (hinv _ res hres hp C.w C.R Vs _ h.own.R_lt h.gl h2 (noDup_map hnd (fun x hx y hy e => h.own.inj _ _ (.inl (h3 x hx).1) (.inl (h3 y hy).1) e))) ?_
            rintro v w' ⟨R', hd⟩
            have hEb : ∀ b, b ∈ (os.map fun x => (C.ρ x.1, x.2.2)).map (·.1) ↔ ∃ x ∈ os, C.ρ x.1 = b := by
              intro b; simp only [List.map_map, List.mem_map, Function.comp]
            have hle : C.Le { C with w := w', R := R' } := ⟨fun i hi => ⟨hi, rfl⟩, fun b hb => ⟨hd.more b hb, hd.fr.block b (h.own.R_lt b hb) (fun e => by
              obtain ⟨x, hx, e⟩ := (hEb b).1 e
              exact h.own.apart _ (.inl (h3 x hx).1) (e ▸ hb))⟩, fun _ _ h => ⟨h, rfl⟩⟩
            have hsame : ∀ i, C.blk i → (∀ x ∈ os, x.1 ≠ i) → w'.heap[C.ρ i]? = C.w.heap[C.ρ i]? := fun i hi hno => hd.fr.block _ (h.own.lt i hi) (fun e => by
              obtain ⟨x, hx, e⟩ := (hEb _).1 e
              exact hno x hx (h.own.inj _ _ (.inl (h3 x hx).1) hi e))
            have hobj : ∀ (i : Nat) (x : Nat × Nat × List AV) (c : List AV), os[i]? = some x → res.outs[i]? = some c → ObjR w' R' (C.ρ x.1) c := fun i x c hi hc => OutR_at (l := x.2.2) hd.outs (by rw [List.getElem?_map, hi]; rfl) hc
            have hunf : ∀ i, C.blk i → ∀ o, w'.frozen? ⟨C.ρ i, o, none⟩ = false := by
              intro i hi o
              by_cases hin : ∃ x ∈ os, x.1 = i
              · obtain ⟨x, hx, rfl⟩ := hin
                obtain ⟨j, hj, hjx⟩ := List.mem_iff_getElem.1 hx
                have hjx' : os[j]? = some x := by rw [List.getElem?_eq_getElem hj, hjx]
                obtain ⟨c, hc, _⟩ := outKeys_at (id := x.1) (n := x.2.1) (l := x.2.2) (i := j) hwr hjx'
                exact (hobj j x c hjx' hc).unfrozen o
              · have := h.own.unfrozen i hi o
                unfold World.frozen? at this ⊢
                rw [hsame i hi (fun x hx e => hin ⟨x, hx, e⟩)]; exact this
            have hwid : ∀ k, (updK M wr k).map AV.width = (M k).map AV.width := by
              intro k
              unfold updK
              split
              · rename_i x hx
                obtain ⟨i, id, n, l, c, p, q, e1, e2, e3, e4, rfl⟩ := look_outKeys hwr hx
                obtain ⟨p', a', q', f1, f2, f3⟩ := widths_split e3 e4
                have hm := readC_has (h3 _ (List.mem_of_getElem? e1)).2.1 f1
                simp only [Nat.zero_add, f2] at hm
                rw [hm]; simp [f3]
              · rfl
            have haft : After w0 E R0 M C ⟨res.pre, res.val, rdKeys os, wr, []⟩ v { C with w := w', R := R' } := by
              refine ⟨hle, ?_, ⟨⟨?_, ?_, ?_⟩, ⟨?_, hunf, ?_, h.own.inj, hd.lt, ?_, h.own.dis, h.own.liv, h.own.rsz, h.own.hokr⟩, ?_, h.mine, ⟨fun b hb => hd.more b (h.rr.1 b hb), fun b hb => (hd.new b hb).elim (h.rr.2 b) (fun h' => .inr (Nat.le_trans h.fr.size h'))⟩, h.keep, Glob.mono h.gl hle.R, h.rown⟩, fun i hi => .inl ⟨hi, rfl⟩⟩
              · exact VR.mono (C := baseC w' R') (C' := { C with w := w', R := R' }) ⟨fun _ h => h.elim, fun b hb => ⟨hb, rfl⟩, fun _ _ h => h.elim⟩ hd.res
              · intro id off x hx hsx
                unfold updK at hx
                split at hx
                · rename_i y hy
                  simp only [Option.some.injEq] at hx; subst hx
                  obtain ⟨i, id', n, l, c, p, q, e1, e2, e3, e4, e5⟩ := look_outKeys hwr hy
                  simp only [Prod.mk.injEq] at e5
                  obtain ⟨rfl, rfl⟩ := e5
                  obtain ⟨hdm, _, _⟩ := h3 _ (List.mem_of_getElem? e1)
                  refine ⟨hdm, ?_⟩
                  obtain ⟨cs, k1, k2, k3⟩ := (hobj i _ c e1 e2).cells
                  rw [e4] at k1
                  obtain ⟨v1, v2, rfl, m1, m2⟩ := CR_split k1
                  obtain ⟨v3, v4, rfl, m3, m4, m5, m6⟩ := CR_uncons m2
                  refine ⟨v3, CR.mono (C := baseC w' R') (C' := { C with w := w', R := R' }) ⟨fun _ h => h.elim, fun b hb => ⟨hb, rfl⟩, fun _ _ h => h.elim⟩ m3, ?_⟩
                  intro j u hj
                  have hjl := lt_of_getElem? hj
                  have := k2 (v1.length + j) u (by rw [List.getElem?_append_right (by omega), List.getElem?_append_left (by omega)]; simpa using hj)
                  rw [CR_length m1] at this
                  simpa using this
                · rename_i hnone
                  obtain ⟨hdm, us, u1, u2⟩ := h.mr.at_ id off x hx hsx
                  refine ⟨hdm, us, u1.mono hle, ?_⟩
                  have hno : ∀ y ∈ os, y.1 ≠ id := by
                    intro y hy e
                    subst e
                    obtain ⟨_, hrd, hsz⟩ := h3 y hy
                    obtain ⟨_, _, _, _, _, ul, upos⟩ := CR_uncons u1
                    have hul : 0 < us.length := by have := CR_length u1; simp [widthC] at this; omega
                    have hcell := u2 0 us[0] (List.getElem?_eq_getElem hul)
                    have hoff : off < y.2.1 := by
                      rw [← hsz, ← h.own.sized _ hdm]
                      unfold World.cell? at hcell
                      unfold objSize
                      split at hcell
                      · rename_i cc ee ff hb
                        rw [hb]
                        simp only [Option.isSome_none, Bool.false_eq_true, if_false, Nat.add_zero] at hcell
                        rcases Nat.lt_or_ge off cc.size with hh | hh
                        · exact hh
                        · rw [Array.getElem?_eq_none hh] at hcell; cases hcell
                      · cases hcell
                    obtain ⟨p, q, e1, e2⟩ := readC_cover h.mr (Nat.le_refl _) hrd hx (Nat.zero_le _) (by omega)
                    obtain ⟨j, hj, hjy⟩ := List.mem_iff_getElem.1 hy
                    have hjy' : os[j]? = some y := by rw [List.getElem?_eq_getElem hj, hjy]
                    obtain ⟨c, hc, hw⟩ := outKeys_at (id := y.1) (n := y.2.1) (l := y.2.2) (i := j) hwr hjy'
                    obtain ⟨p', a', q', f1, f2, f3⟩ := widths_split hw.symm e1
                    have := outKeys_has (i := j) (id := y.1) (n := y.2.1) (l := y.2.2) hwr hjy' hc f1
                    rw [f2, show widthC p = off by omega, hnone] at this
                    cases this
                  intro j u hj
                  rw [cell_of_block (hsame id (.inl hdm) hno)]
                  exact u2 j u hj
              · intro id off x hx hsx
                unfold updK at hx
                split at hx
                · rename_i y hy
                  simp only [Option.some.injEq] at hx; subst hx
                  obtain ⟨i, id', n, l, c, p, q, e1, e2, e3, e4, e5⟩ := look_outKeys hwr hy
                  obtain ⟨cs, k1, k2, k3⟩ := (hobj i _ c e1 e2).cells
                  rw [e4] at k1
                  obtain ⟨v1, v2, hv, m1, m2⟩ := CR_split k1
                  rw [CR_spec m2] at hsx; cases hsx
                · have hsp := h.mr.sp id off x hx hsx
                  have hno : ∀ y ∈ os, C.dom y.1 := fun y hy => (h3 y hy).1
                  cases x with
                  | sit s0 pos0 =>
                    refine hsp.congr ⟨.rfl, .rfl, .rfl, fun _ => rfl, fun _ => .rfl, fun _ _ => rfl, fun hb => hsame id hb ?_⟩ hle.R
                    intro y hy e
                    subst e
                    obtain ⟨_, _, hsz⟩ := h3 y hy
                    have h0 := h.own.sized _ hsp.1
                    have h1 : objSize C.w (C.ρ y.1) = 0 := by unfold objSize; rw [show C.w.heap[C.ρ y.1]? = _ from hsp.2.2.2]
                    have h2 := List.all_eq_true.1 hpos0 y hy
                    have h3 : 0 < y.2.1 := by simpa using h2
                    omega
                  | row e0 t0 xs0 ver0 =>
                    refine hsp.congr ⟨.rfl, .rfl, .rfl, fun _ => rfl, fun _ => .rfl, fun _ _ => rfl, fun hb => hsame id hb ?_⟩ hle.R
                    intro y hy e
                    subst e
                    exact h.own.dis _ (hno y hy) hsp.2.row
                  | _ => exact hsp
              · intro id o1 o2 a1 a2 g1 g2 hlt'
                have w1 := hwid (id, o1)
                have w2 := hwid (id, o2)
                simp only at g1 g2
                rw [g1] at w1; rw [g2] at w2
                cases m1 : M (id, o1) with
                | none => rw [m1] at w1; cases w1
                | some b1 =>
                  cases m2 : M (id, o2) with
                  | none => rw [m2] at w2; cases w2
                  | some b2 =>
                    rw [m1] at w1
                    simp only [Option.map_some, Option.some.injEq] at w1
                    rw [w1]; exact h.mr.apart _ _ _ _ _ m1 m2 hlt'
              · intro i hi; exact Nat.lt_of_lt_of_le (h.own.lt i hi) hd.fr.size
              · intro i hi hR
                rcases hd.new _ hR with h5 | h5
                · exact h.own.apart i hi h5
                · exact absurd (h.own.lt i hi) (Nat.not_lt.2 h5)
              · intro i hi; rw [hd.size _ (h.own.lt i (.inl hi))]; exact h.own.sized i hi
              · refine ⟨hd.fr.os.trans h.fr.os, hd.fr.tape.trans h.fr.tape, hd.fr.output.trans h.fr.output, Nat.le_trans h.fr.size hd.fr.size, fun b hb hE => ?_⟩
                rw [hd.fr.block b (Nat.lt_of_lt_of_le hb h.fr.size) (fun e => ?_)]
                · exact h.fr.block b hb hE
                · obtain ⟨x, hx, rfl⟩ := (hEb b).1 e
                  rcases h.mine _ (.inl (h3 x hx).1) with h6 | h6
                  · omega
                  · exact hE h6
            exact hK v _ haft
          · cases hr
        · cases hr
    · cases hr

theorem evStore_wp [Glob] (hT : TyOk P T) {o : Oper} {a : Act} {t : TypeId} {x y : Operand} {p v : AV} {r : OpR} {Q : Exit → Act → World → Prop} {K : Act → World → Prop} (h : SR w0 E R0 M C) (hop : o.op = .store t x y) (hr : evStore T M t p v = some r)
    (hx : VR C p (a.eval x)) (hy : VR C v (a.eval y)) (hK : ∀ v C', After w0 E R0 M C r v C' → K (a.put o.dst v) C'.w) : o.wp P a C.w K Q := by
  unfold evStore at hr
  cases ht : T t with
  | none => simp [ht] at hr
  | some d =>
    simp only [ht] at hr
    have ok := hT t d ht
    have hexec : ∀ ad, a.eval x = .pointer (some ad) → (execOp a.eval o).run P C.w = ((storeVar t ad (a.eval y)).run P C.w).andThen fun _ w => .ok .skip w := by
      intro ad had
      simp only [execOp, hop, Instr.storeAt, had, Instr.sureAddr, Sem.run_bind, Sem.run_pure, Result.andThen_ok]
    generalize hX : a.eval x = X at hx hexec
    cases hx with
    | @ptr _ id off hd =>
      simp only at hr
      split at hr
      · rename_i hc
        simp only [Bool.and_eq_true, beq_iff_eq] at hc
        obtain ⟨⟨hc1, hc2⟩, hc3⟩ := hc
        simp only [Option.some.injEq] at hr; subst hr
        have hcr := cellable_CR hy hc1
        obtain ⟨C', e1, e2, e3, e4, e5, e6⟩ := SR_keys (M := M) (acc := []) h hc3 hcr
        have hlen : (a.eval y).cells.size = d.size := by rw [← hc2, ← CR_length hcr]; simp
        have hcells := fitsW_cells (w0 := w0) h.mr hc3 hcr
        have hst := run_storeCells_cells (P := P) (C.ρ id) off (a.eval y).cells.toList 0 C.w (by simpa using hcells) (fun j _ => h.own.unfrozen id (.inl hd) _) (CR_oneCell hcr)
        have hrun : (storeVar t ⟨C.ρ id, off, none⟩ (a.eval y)).run P C.w = .ok () (C.w.setCells (C.ρ id) off (a.eval y).cells.toList) := by
          simp only [storeVar, Sem.run_bind, run_sizeOf ok, Result.andThen_ok]
          rw [if_neg (by simp [hlen])]
          exact hst
        unfold Oper.wp
        rw [hexec _ rfl, hrun]
        simp only [Result.andThen_ok]
        rw [Oper.upon_skip, ← e1]
        exact hK undef C' ⟨e2, .poison _, e6, fun i hi => .inl ⟨by unfold Ctx.has at hi ⊢; rw [e3, e5.2.2] at hi; exact hi, by rw [e5.2.1]⟩⟩
      · simp at hr
    | @px _ id off n i hd hi =>
      simp only at hr
      split at hr
      · rename_i n' f hf
        split at hr
        · rename_i hc
          simp only [Bool.and_eq_true, beq_iff_eq, Bool.not_eq_true'] at hc
          obtain ⟨⟨⟨hc1, hc2⟩, rfl⟩, hc4⟩ := hc
          simp only [Option.some.injEq] at hr; subst hr
          obtain ⟨hb, hone⟩ := plain_bare hy hc2
          obtain ⟨_, us, hu, huc⟩ := h.mr.at_ _ _ _ hf rfl
          obtain ⟨g, rfl, g0, g1, g2, g3⟩ := CR_ar hu
          have hset : ((List.range n').map g).set i (a.eval y) = (List.range n').map fun j => if j = i then a.eval y else g j := by
            apply List.ext_getElem?
            intro j
            rw [List.getElem?_set]
            by_cases e : i = j
            · subst e; simp [hi]
            · have : ¬ j = i := fun e' => e e'.symm
              by_cases hj : j < n'
              · simp [e, hj, this]
              · simp [e, hj]
          have hcr : CR C [AV.ar n' fun j => merge0 (decide (j = i)) v (f j)] (((List.range n').map g).set i (a.eval y)) := by
            have := CR.ar (C := C) (n := n') (f := fun j => merge0 (decide (j = i)) v (f j)) (g := fun j => if j = i then a.eval y else g j) (l := []) (vs := []) g0
              (fun j hj => merge0_VR (fun e => by simp at e; simp [e]; exact hb) (fun e => by simp at e; simp [e]; exact g1 j hj))
              (fun j hj => by split; exact hone; exact g2 j hj) (fun j hj => merge0_flat ..) .nil
            rw [hset]
            simpa using this
          obtain ⟨C', e1, e2, e3, e4, e5, e6⟩ := SR_cell h hf (x := .ar n' fun j => merge0 (decide (j = i)) v (f j)) (V := a.eval y) rfl rfl huc (by simpa using hi) (by simp [AV.width]) hcr
          have hvc : (a.eval y).cells = #[a.eval y] := by
            generalize a.eval y = Y at hone
            cases Y <;> simp [Value.oneCell'] at hone <;> rfl
          have hcell : C.w.cell? ⟨C.ρ id, off + i, none⟩ = some (g i) := huc i (g i) (by simp [hi])
          have hone0 : ∀ j, j < [a.eval y].length → (C.w.cell? ⟨C.ρ id, off + i + 0 + j, none⟩).isSome = true := by
            intro j hj
            have e0 : j = 0 := by simpa using hj
            subst e0; simp [hcell]
          have hst := run_storeCells_cells (P := P) (C.ρ id) (off + i) [a.eval y] 0 C.w hone0 (fun j _ => h.own.unfrozen id (.inl hd) _) (by simpa using hone)
          have hrun : (storeVar t ⟨C.ρ id, off + i, none⟩ (a.eval y)).run P C.w = .ok () (C.w.setCells (C.ρ id) (off + i) [a.eval y]) := by
            simp only [storeVar, Sem.run_bind, run_sizeOf ok, Result.andThen_ok]
            rw [if_neg (by simp [hvc, hc1]), hvc]
            simpa using hst
          unfold Oper.wp
          rw [hexec _ rfl, hrun]
          simp only [Result.andThen_ok]
          rw [Oper.upon_skip, ← e1]
          refine hK undef C' ⟨e2, .poison _, ?_, fun i hi => .inl ⟨by unfold Ctx.has at hi ⊢; rw [e3, e5.2.2] at hi; exact hi, by rw [e5.2.1]⟩⟩
          have : (fun k => if (id, off) = k then some (AV.ar n' fun j => merge0 (decide (j = i)) v (f j)) else M k) = updK M [((id, off), .ar n' fun j => merge0 (decide (j = i)) v (f j))] := by funext k; rw [updK_cons, updK_nil]
          rw [this] at e6
          exact e6
        · simp at hr
      · simp at hr
    | _ => simp at hr

end
end Go.Proofs.YtcdnbdphakhilaaGreatDoor.Ev
