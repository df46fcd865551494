/- The value-level evaluator: typed slices, a table of own objects, and what one operation does to them. It speaks of no program. -/
import Derived.Orders
set_option linter.unusedSimpArgs false
set_option linter.unusedVariables false
set_option linter.unusedSectionVars false
namespace Go.Proofs.Ytjdpppbegjnpaaa

structure Late where
  side : Int
  at_ : Int
  text : ByteArray
structure Ptr where
  at_ : Int
  sum : Int
  birth : Int
structure Ent where
  sum : Int
  at_ : Int
  count : Int
structure BSet where
  name : ByteArray
  kind : Int
  from_ : ByteArray
  blocks : Vector ByteArray 8
structure CSet where
  name : ByteArray
  kind : Int
  from_ : ByteArray
  map : Vector Ptr 8
  home : Ptr
  dirty : Bool
structure BOp where
  kind : Int
  a : ByteArray
  b : ByteArray
  i : Int
  text : ByteArray

/-- The element types of the slices. -/
inductive ET where
  | str | int | byte | late | ptr | ent | bset | cset | bop
  deriving DecidableEq

abbrev ET.α : ET → Type
  | .str => ByteArray
  | .int => Int
  | .byte => UInt8
  | .late => Late
  | .ptr => Ptr
  | .ent => Ent
  | .bset => BSet
  | .cset => CSet
  | .bop => BOp

def ET.sz : ET → Nat
  | .str => 1
  | .int => 1
  | .byte => 1
  | .late => 3
  | .ptr => 3
  | .ent => 3
  | .bset => 11
  | .cset => 31
  | .bop => 5

def i64 (n : Int) : Value := .int .i64 n
def Ptr.cells (p : Ptr) : List Value := [.int .i64 p.at_, .int .i64 p.sum, .int .i64 p.birth]
def ET.cells : (t : ET) → t.α → List Value
  | .str, s => [.string s]
  | .int, n => [.int .i64 n]
  | .byte, b => [.int .u8 b.toNat]
  | .late, x => [.int .i64 x.side, .int .i64 x.at_, .string x.text]
  | .ptr, p => p.cells
  | .ent, e => [.int .i64 e.sum, .int .i64 e.at_, .int .i64 e.count]
  | .bset, s => [.string s.name, .int .i64 s.kind, .string s.from_] ++ s.blocks.toList.map .string
  | .cset, s => [.string s.name, .int .i64 s.kind, .string s.from_] ++ (s.map.toList.flatMap Ptr.cells ++ (s.home.cells ++ [.bool s.dirty]))
  | .bop, o => [.int .i64 o.kind, .string o.a, .string o.b, .int .i64 o.i, .string o.text]

def Value.str : Value → ByteArray
  | .string s => s
  | _ => ⟨#[]⟩
def Value.num : Value → Int
  | .int _ n => n
  | _ => 0
def Value.boo : Value → Bool
  | .bool b => b
  | _ => false
def ptrOf : List Value → Ptr
  | [a, b, c] => ⟨Value.num a, Value.num b, Value.num c⟩
  | _ => ⟨0, 0, 0⟩
def cell (cs : List Value) (i : Nat) : Value := cs.getD i (.tuple #[])
def ET.ofCells : (t : ET) → List Value → t.α
  | .str, cs => Value.str (cell cs 0)
  | .int, cs => Value.num (cell cs 0)
  | .byte, cs => UInt8.ofNat (Value.num (cell cs 0)).toNat
  | .late, cs => ⟨Value.num (cell cs 0), Value.num (cell cs 1), Value.str (cell cs 2)⟩
  | .ptr, cs => ptrOf cs
  | .ent, cs => ⟨Value.num (cell cs 0), Value.num (cell cs 1), Value.num (cell cs 2)⟩
  | .bset, cs => ⟨Value.str (cell cs 0), Value.num (cell cs 1), Value.str (cell cs 2), Vector.ofFn fun i => Value.str (cell cs (3 + i.1))⟩
  | .cset, cs => ⟨Value.str (cell cs 0), Value.num (cell cs 1), Value.str (cell cs 2), Vector.ofFn fun i => ptrOf ((cs.drop (3 + 3 * i.1)).take 3), ptrOf ((cs.drop 27).take 3), Value.boo (cell cs 30)⟩
  | .bop, cs => ⟨Value.num (cell cs 0), Value.str (cell cs 1), Value.str (cell cs 2), Value.num (cell cs 3), Value.str (cell cs 4)⟩
def Ptr.zero : Ptr := ⟨0, 0, 0⟩
def ET.dflt : (t : ET) → t.α
  | .str => ⟨#[]⟩
  | .int => (0 : Int)
  | .byte => (0 : UInt8)
  | .late => ⟨0, 0, ⟨#[]⟩⟩
  | .ptr => Ptr.zero
  | .ent => ⟨0, 0, 0⟩
  | .bset => ⟨⟨#[]⟩, 0, ⟨#[]⟩, Vector.replicate 8 ⟨#[]⟩⟩
  | .cset => ⟨⟨#[]⟩, 0, ⟨#[]⟩, Vector.replicate 8 Ptr.zero, Ptr.zero, false⟩
  | .bop => ⟨0, ⟨#[]⟩, ⟨#[]⟩, 0, ⟨#[]⟩⟩
/-- Element i of a list (the default beyond its end). -/
def ET.at (t : ET) (xs : List t.α) (i : Nat) : t.α := xs.getD i t.dflt

/-- A cell's value. -/
inductive TC where
  | val (v : Value)
  | ptr (k off : Nat)
  | eptr (k sz i j : Nat)
  | osl (t : ET) (k off len : Nat)
  | isl (t : ET) (xs : List t.α)
  | ip (cs : List Value) (off : Nat)
  | fn (f : FuncId) (caps : List (Nat × Nat))
  | ifc
  | nb (p q : Prop)
  | any

inductive TV where
  | one (c : TC)
  | agg (cs : List TC)
  | tup (vs : List TV)
  | gd (c : Bool) (v : TV)

inductive Obj where
  | cells (cs : List TC)
  | arr (t : ET) (xs : List t.α)

inductive TK where
  | int (k : IntKind)
  | str
  | bool
  | iface
  | sl (elem : TypeId)
  | arr (n : Nat) (elem : TypeId)
  | st (fs : List (Nat × TypeId))
  | ptr (elem : TypeId)
  | other
structure TI where
  k : TK
  agg : Bool
  sz : Nat
  bytes : Nat
  zero : List Value
  et : Option ET

/-- The kinds of the cells of a struct that is compared. -/
def ET.kinds : ET → Option (List TK)
  | .late => some [.int .i64, .int .i64, .str]
  | .ptr => some [.int .i64, .int .i64, .int .i64]
  | _ => none
def kindsOk : List TK → List Value → Bool
  | [], [] => true
  | .int .i64 :: ks, .int .i64 _ :: vs => kindsOk ks vs
  | .str :: ks, .string _ :: vs => kindsOk ks vs
  | _, _ => false
def valsEq : List Value → List Value → Bool
  | .int _ a :: xs, .int _ b :: ys => (a == b) && valsEq xs ys
  | .string a :: xs, .string b :: ys => (a.toList == b.toList) && valsEq xs ys
  | _, _ => true

/-- What one operation does: its condition, its value, which objects it turns (none: the object is gone), and the new objects. -/
structure St where
  pre : Prop
  v : TV
  upd : List (Nat × Option Obj)
  news : List Obj
def no : St := ⟨False, .one .any, [], []⟩
def is (v : TV) : St := ⟨True, v, [], []⟩
def ifp (p : Prop) (v : TV) : St := ⟨p, v, [], []⟩
def vb (b : Bool) : TV := .one (.val (.bool b))
def vi (n : Int) : TV := .one (.val (.int .i64 n))
def vs (s : ByteArray) : TV := .one (.val (.string s))

def TV.cells : TV → List TC
  | .one c => [c]
  | .agg cs => cs
  | _ => []
def TV.isAgg : TV → Bool
  | .agg _ => true
  | _ => false
def tcv : TC → Option Value
  | .val v => some v
  | _ => none
/-- The plain cells of a value. -/
def plain : List TC → Option (List Value)
  | [] => some []
  | c :: cs => match tcv c, plain cs with
    | some v, some vs => some (v :: vs)
    | _, _ => none

def asI : TV → Option Int
  | .one (.val (.int _ n)) => some n
  | _ => none

/-- Integers, strings and bools under an operator. -/
def binv (op : BinOp) (a b : Value) : St :=
  match a, b with
  | .int k x, .int k' y =>
    match op with
    | .add => ifp (k = k') (.one (.val (.int k (k.wrap (x + y)))))
    | .sub => ifp (k = k') (.one (.val (.int k (k.wrap (x - y)))))
    | .mul => ifp (k = k') (.one (.val (.int k (k.wrap (x * y)))))
    | .quo => ifp (k = k' ∧ y ≠ 0) (.one (.val (.int k (k.wrap (x.tdiv y)))))
    | .rem => ifp (k = k' ∧ y ≠ 0) (.one (.val (.int k (x.tmod y))))
    | .eql => ifp (k = k') (vb (x == y))
    | .neq => ifp (k = k') (vb (x != y))
    | .lss => ifp (k = k') (vb (decide (x < y)))
    | .leq => ifp (k = k') (vb (decide (x ≤ y)))
    | .gtr => ifp (k = k') (vb (decide (x > y)))
    | .geq => ifp (k = k') (vb (decide (x ≥ y)))
    | .and => ifp (k = k') (.one (.val (.int k (k.wrap (BitVec.ofInt k.bits x &&& BitVec.ofInt k.bits y).toNat))))
    | .or => ifp (k = k') (.one (.val (.int k (k.wrap (BitVec.ofInt k.bits x ||| BitVec.ofInt k.bits y).toNat))))
    | .xor => ifp (k = k') (.one (.val (.int k (k.wrap (BitVec.ofInt k.bits x ^^^ BitVec.ofInt k.bits y).toNat))))
    | .shl => ifp (0 ≤ y) (.one (.val (.int k (k.wrap (x * 2 ^ (min y.toNat k.bits))))))
    | .shr => ifp (0 ≤ y) (.one (.val (.int k (x.fdiv (2 ^ (min y.toNat k.bits))))))
    | _ => no
  | .string x, .string y =>
    match op with
    | .add => ifp (x.size + y.size ≤ 9223372036854775807) (vs (x ++ y))
    | .eql => is (vb (x.toList == y.toList))
    | .neq => is (vb (!(x.toList == y.toList)))
    | .lss => is (vb (Op.bytesLess x.toList y.toList))
    | .leq => is (vb (Op.bytesLess x.toList y.toList || x.toList == y.toList))
    | .gtr => is (vb (!(Op.bytesLess x.toList y.toList || x.toList == y.toList)))
    | .geq => is (vb (!(Op.bytesLess x.toList y.toList)))
    | _ => no
  | _, _ => no

def unv (op : UnOp) (a : TV) : St :=
  match op, a with
  | .not, .one (.val (.bool b)) => is (vb !b)
  | .neg, .one (.val (.int k x)) => is (.one (.val (.int k (k.wrap (0 - x)))))
  | _, _ => no

/-- The bounds of a slice expression on n things: low, high. -/
def lohi (len : Nat) (lo hi : Option TV) : Prop × Nat × Nat :=
  match lo, hi with
  | none, none => (True, 0, len)
  | some l, none => match asI l with | some i => (0 ≤ i ∧ i ≤ len, i.toNat, len) | none => (False, 0, 0)
  | none, some h => match asI h with | some j => (0 ≤ j ∧ j ≤ len, 0, j.toNat) | none => (False, 0, 0)
  | some l, some h => match asI l, asI h with | some i, some j => (0 ≤ i ∧ i ≤ j ∧ j ≤ len, i.toNat, j.toNat) | _, _ => (False, 0, 0)

/-- The content of a slice. -/
def content (rd : Nat → Option Obj) (t : ET) : TC → Option (List t.α)
  | .isl t' xs => if h : t' = t then some (h ▸ xs) else none
  | .osl t' k off len => match rd k with
    | some (.arr t'' xs) => if h : t'' = t then if t' = t then if off + len ≤ xs.length then some ((h ▸ xs : List t.α).drop off |>.take len) else none else none else none
    | _ => none
  | .val (.slice none 0 0) => some []
  | _ => none


/-- A list's part from off on, n long. -/
def part (off n : Nat) (cs : List TC) : List TC := (cs.drop off).take n
/-- cs with vs laid over it from off on. -/
def lay : Nat → List TC → List TC → List TC
  | _, [], cs => cs
  | off, v :: vs, cs => lay (off + 1) vs (cs.set off v)
def layV : Nat → List Value → List Value → List Value
  | _, [], cs => cs
  | off, v :: vs, cs => layV (off + 1) vs (cs.set off v)

/-- The cells at a place as the value of a type: one, or an aggregate of so many. -/
def asVal (agg : Bool) (sz off : Nat) (cs : List TC) : TV := if agg then .agg (part off sz cs) else .one (cs.getD off .any)

def loadv (ti : TypeId → TI) (rd : Nat → Option Obj) (t : TypeId) : TV → St
  | .one (.ptr k off) => match rd k with
    | some (.cells cs) => ifp (off + (ti t).sz ≤ cs.length ∧ 0 < (ti t).sz) (asVal (ti t).agg (ti t).sz off cs)
    | _ => no
  | .one (.eptr k sz i j) => match rd k with
    | some (.arr t' xs) => ifp (i < xs.length ∧ sz = t'.sz ∧ j + (ti t).sz ≤ sz ∧ 0 < (ti t).sz) (asVal (ti t).agg (ti t).sz j ((t'.cells (t'.at xs i)).map .val))
    | _ => no
  | .one (.ip cs off) => ifp (off + (ti t).sz ≤ cs.length ∧ 0 < (ti t).sz) (asVal (ti t).agg (ti t).sz off (cs.map .val))
  | _ => no

def oneCell : Value → Bool
  | .agg _ => false
  | .tuple _ => false
  | _ => true
/-- May a cell's value be stored? -/
def storable : TC → Prop
  | .any => False
  | .val v => oneCell v = true
  | _ => True
def allStorable : List TC → Prop
  | [] => True
  | c :: cs => storable c ∧ allStorable cs

def storev (ti : TypeId → TI) (rd : Nat → Option Obj) (t : TypeId) (a v : TV) : St :=
  match a with
  | .one (.ptr k off) => match rd k with
    | some (.cells cs) => ⟨off + (ti t).sz ≤ cs.length ∧ v.cells.length = (ti t).sz ∧ allStorable v.cells ∧ 0 < (ti t).sz, .one .any, [(k, some (.cells (lay off v.cells cs)))], []⟩
    | _ => no
  | .one (.eptr k sz i j) => match rd k, plain v.cells with
    | some (.arr t' xs), some vs =>
      ⟨i < xs.length ∧ sz = t'.sz ∧ j + (ti t).sz ≤ sz ∧ vs.length = (ti t).sz ∧ allStorable v.cells ∧ t'.cells (t'.ofCells (layV j vs (t'.cells (t'.at xs i)))) = layV j vs (t'.cells (t'.at xs i)) ∧ 0 < (ti t).sz,
        .one .any, [(k, some (.arr t' (xs.set i (t'.ofCells (layV j vs (t'.cells (t'.at xs i)))))))], []⟩
    | _, _ => no
  | _ => no

/-- A field's place and type. -/
def fieldAt (ti : TypeId → TI) (s : TypeId) (f : Nat) : Option (Nat × TypeId) :=
  match (ti s).k with
  | .st fs => fs[f]?
  | _ => none
def fieldv (ti : TypeId → TI) (s : TypeId) (f : Nat) (x : TV) : St :=
  match fieldAt ti s f with
  | none => no
  | some (o, ft) => match x with
    | .one (.ptr k off) => ifp (0 < (ti ft).sz) (.one (.ptr k (off + o)))
    | .one (.eptr k sz i j) => ifp (0 < (ti ft).sz) (.one (.eptr k sz i (j + o)))
    | .one (.ip cs off) => ifp (0 < (ti ft).sz) (.one (.ip cs (off + o)))
    | _ => no

def fieldOf (ti : TypeId → TI) (s : TypeId) (f : Nat) (x : TV) : St :=
  match fieldAt ti s f, x with
  | some (o, ft), .agg cs => ifp (o + (ti ft).sz ≤ cs.length ∧ 0 < (ti ft).sz) (asVal (ti ft).agg (ti ft).sz o cs)
  | _, _ => no

def indexv (ti : TypeId → TI) (rd : Nat → Option Obj) (t : TypeId) (x ix : TV) : St :=
  match asI ix with
  | none => no
  | some i => match (ti t).k with
    | .arr n e => match x with
      | .one (.ptr k off) => ifp ((0 ≤ i ∧ i < n) ∧ 0 < (ti e).sz) (.one (.ptr k (off + i.toNat * (ti e).sz)))
      | .one (.eptr k sz i0 j) => ifp ((0 ≤ i ∧ i < n) ∧ 0 < (ti e).sz) (.one (.eptr k sz i0 (j + i.toNat * (ti e).sz)))
      | .one (.ip cs off) => ifp ((0 ≤ i ∧ i < n) ∧ 0 < (ti e).sz) (.one (.ip cs (off + i.toNat * (ti e).sz)))
      | _ => no
    | .sl e => match x with
      | .one (.isl t' xs) => ifp (0 ≤ i ∧ i < xs.length ∧ (ti e).sz = t'.sz) (.one (.ip (t'.cells (t'.at xs i.toNat)) 0))
      | .one (.osl t' k off len) => match rd k with
        | some (.arr t'' xs) => ifp (0 ≤ i ∧ i < len ∧ off + len ≤ xs.length ∧ (ti e).sz = t'.sz ∧ t' = t'') (.one (.eptr k t'.sz (off + i.toNat) 0))
        | _ => no
      | _ => no
    | _ => no

/-- An index of a string, or of an array's value. -/
def indexOf (ti : TypeId → TI) (t : TypeId) (x ix : TV) : St :=
  match asI ix with
  | none => no
  | some i => match (ti t).k, x with
    | .str, .one (.val (.string s)) => ifp (0 ≤ i ∧ i < s.size) (.one (.val (.int .u8 (s.data.getD i.toNat 0).toNat)))
    | _, _ => no

def slicev (ti : TypeId → TI) (rd : Nat → Option Obj) (t : TypeId) (x : TV) (lo hi : Option TV) : St :=
  match (ti t).k, x with
  | .str, .one (.val (.string s)) => ifp (lohi s.size lo hi).1 (vs (s.extract (lohi s.size lo hi).2.1 (lohi s.size lo hi).2.2))
  | .sl e, .one (.isl t' xs) => ifp ((lohi xs.length lo hi).1 ∧ (ti e).sz = t'.sz) (.one (.isl t' ((xs.drop (lohi xs.length lo hi).2.1).take ((lohi xs.length lo hi).2.2 - (lohi xs.length lo hi).2.1))))
  | .sl e, .one (.osl t' k off len) => match rd k with
    | some (.arr t'' xs) => ifp (t' = t'' ∧ off + len ≤ xs.length ∧ (lohi len lo hi).1 ∧ (ti e).sz = t'.sz) (.one (.osl t' k (off + (lohi len lo hi).2.1) ((lohi len lo hi).2.2 - (lohi len lo hi).2.1)))
    | _ => no
  | _, _ => no

/-- Boxing: an object of its own. -/
def boxv (ti : TypeId → TI) (n : Nat) (t : TypeId) (v : TV) : St := ⟨v.cells.length = (ti t).sz ∧ 0 < (ti t).sz ∧ (ti t).agg = v.isAgg ∧ allStorable v.cells, .one (.ptr n 0), [], [.cells v.cells]⟩

def bytesMax : Nat := 281474976710656
def roomMax : Nat := 140737488355328

def appendv (ti : TypeId → TI) (rd : Nat → Option Obj) (n : Nat) (sT xT : TypeId) (s x : TV) : St :=
  match (ti sT).k with
  | .sl e => match (ti e).et, (ti xT).k with
    | some t, .sl _ => match s, x with
      | .one (.osl t' k off len), .one xc => match content rd t (.osl t' k off len), content rd t xc with
        | some xs, some ys => ⟨t' = t ∧ (ti e).sz = t.sz ∧ (2 * (len + ys.length) + 1024) * (ti e).bytes ≤ bytesMax ∧ 0 < (ti e).bytes, .one (.osl t n 0 (len + ys.length)), [(k, none)], [.arr t (xs ++ ys)]⟩
        | _, _ => no
      | .one (.val (.slice none 0 0)), .one xc => match content rd t xc with
        | some ys => ⟨(ti e).sz = t.sz ∧ (2 * ys.length + 1024) * (ti e).bytes ≤ bytesMax ∧ 0 < (ti e).bytes, .one (.osl t n 0 ys.length), [], [.arr t ys]⟩
        | _ => no
      | _, _ => no
    | _, _ => no
  | _ => no

def makev (ti : TypeId → TI) (n : Nat) (t : TypeId) (len cap : TV) : St :=
  match (ti t).k with
  | .sl e => match (ti e).et, asI len, asI cap with
    | some t, some l, some c => ⟨0 ≤ l ∧ l = c ∧ (ti e).sz = t.sz ∧ c * (ti e).bytes ≤ bytesMax ∧ t.cells t.dflt = (ti e).zero ∧ 0 < (ti e).bytes, .one (.osl t n 0 l.toNat), [], [.arr t (List.replicate l.toNat t.dflt)]⟩
    | _, _, _ => no
  | _ => no

/-- The elements that the parts of a slice's literal give: of all places from i on, in order. -/
def elems (t : ET) : Nat → List (Nat × TV) → Option (Prop × List t.α)
  | _, [] => some (True, [])
  | i, (j, v) :: r => match plain v.cells, elems t (i + 1) r with
    | some vs, some (p, xs) => some (i = j ∧ allStorable v.cells ∧ t.cells (t.ofCells vs) = vs ∧ p, t.ofCells vs :: xs)
    | _, _ => none
def litv (ti : TypeId → TI) (n : Nat) (t : TypeId) (len : Nat) (parts : List (Nat × TV)) : St :=
  match (ti t).k with
  | .sl e => match (ti e).et with
    | some t => match elems t 0 parts with
      | some (p, xs) => ⟨p ∧ len = xs.length ∧ (ti e).sz = t.sz ∧ len * t.sz ≤ 16777216, .one (.osl t n 0 len), [], [.arr t xs]⟩
      | none => no
    | none => no
  | _ => no

/-- A struct's or an array's literal: the parts laid over zero. -/
def fills (place : Nat → Option (Nat × Nat)) : List TC → List (Nat × TV) → Option (Prop × List TC)
  | cs, [] => some (True, cs)
  | cs, (i, v) :: r => match place i with
    | none => none
    | some (off, sz) => match fills place (lay off v.cells cs) r with
      | some (p, ds) => some (v.cells.length = sz ∧ off + sz ≤ cs.length ∧ 0 < sz ∧ allStorable v.cells ∧ p, ds)
      | none => none
def placeOf (ti : TypeId → TI) (t : TypeId) (i : Nat) : Option (Nat × Nat) :=
  match (ti t).k with
  | .st fs => (fs[i]?).map fun q => (q.1, (ti q.2).sz)
  | .arr _ e => some (i * (ti e).sz, (ti e).sz)
  | _ => none
def knownAll (ti : TypeId → TI) (t : TypeId) : Bool :=
  match (ti t).k with
  | .st fs => fs.all fun q => decide (0 < (ti q.2).sz)
  | .arr _ e => decide (0 < (ti e).sz)
  | _ => false
def buildv (ti : TypeId → TI) (t : TypeId) (parts : List (Nat × TV)) : St :=
  match fills (placeOf ti t) ((ti t).zero.map .val) parts with
  | some (p, cs) => ifp ((ti t).agg = true ∧ knownAll ti t = true ∧ p) (.agg cs)
  | none => no

def caps : List TV → Option (List (Nat × Nat))
  | [] => some []
  | .one (.ptr k off) :: r => (caps r).map ((k, off) :: ·)
  | _ :: _ => none

def lenv (ti : TypeId → TI) (t : TypeId) (x : TV) : St :=
  match (ti t).k, x with
  | .str, .one (.val (.string s)) => is (vi s.size)
  | .sl _, .one (.isl _ xs) => is (vi xs.length)
  | .sl _, .one (.osl _ _ _ len) => is (vi len)
  | .sl _, .one (.val (.slice none 0 0)) => is (vi 0)
  | .arr n _, _ => is (vi n)
  | _, _ => no

def convv (ti : TypeId → TI) (rd : Nat → Option Obj) (n : Nat) (src dst : TypeId) (x : TV) : St :=
  match (ti src).k, (ti dst).k, x with
  | .int _, .int k, .one (.val (.int _ i)) => is (.one (.val (.int k (k.wrap i))))
  | .str, .str, .one (.val (.string s)) => is (vs s)
  | .str, .sl e, .one (.val (.string s)) => ⟨(ti e).k = .int .u8 ∧ (ti e).sz = 1, .one (.osl .byte n 0 s.size), [], [.arr .byte s.data.toList]⟩
  | .sl e, .str, .one c => match content rd .byte c with
    | some xs => ifp ((ti e).k = .int .u8 ∧ (ti e).sz = 1) (vs ⟨xs.toArray⟩)
    | none => no
  | _, _, _ => no

def zeroOf (ti : TypeId → TI) (t : TypeId) : TV := if (ti t).agg then .agg ((ti t).zero.map .val) else .one (((ti t).zero.map TC.val).getD 0 .any)

/-! ### Calls: what a callee is told, and what comes back -/

/-- What a callee does: its condition, its value, which of the objects handed over it turns, its new objects. -/
structure Ct where
  own : Bool
  sh : List (List (Option ET))
  spec : List TV → List Obj → St

def idxOf (π : List Nat) (k : Nat) : Option Nat :=
  match π with
  | [] => none
  | j :: r => if j = k then some 0 else (idxOf r k).map (· + 1)
def addNew (π : List Nat) (k : Nat) : List Nat := if (idxOf π k).isSome then π else π ++ [k]

def refsC (own : Bool) : TC → List Nat
  | .ptr k _ => [k]
  | .eptr k _ _ _ => [k]
  | .osl _ k _ _ => if own then [k] else []
  | .fn _ cs => cs.map (·.1)
  | _ => []
def refsV (own : Bool) : TV → List Nat
  | .one c => refsC own c
  | .agg cs => cs.flatMap (refsC own)
  | _ => []
def refsO (rd : Nat → Option Obj) (k : Nat) : List Nat :=
  match rd k with
  | some (.cells cs) => cs.flatMap (refsC true)
  | _ => []
/-- The objects that a call hands over. -/
def handed (rd : Nat → Option Obj) (own : Bool) (args : List TV) : List Nat :=
  let roots := (args.flatMap (refsV own)).foldl addNew []
  (roots.flatMap (refsO rd)).foldl addNew roots

def mapO {α β : Type} (f : α → Option β) : List α → Option (List β)
  | [] => some []
  | a :: r => match f a, mapO f r with
    | some b, some bs => some (b :: bs)
    | _, _ => none

def viewCap (π : List Nat) (q : Nat × Nat) : Option (Nat × Nat) := (idxOf π q.1).map fun j => (j, q.2)
def viewC (rd : Nat → Option Obj) (own : Bool) (π : List Nat) (sh : Option ET) : TC → Option TC
  | .ptr k off => (idxOf π k).map fun j => .ptr j off
  | .eptr k sz i o => (idxOf π k).map fun j => .eptr j sz i o
  | .osl t k off len => if own then (idxOf π k).map fun j => .osl t j off len else match idxOf π k with | none => (content rd t (.osl t k off len)).map (.isl t) | some _ => none
  | .fn f cs => (mapO (viewCap π) cs).map (.fn f)
  | .val (.slice none 0 0) => match sh with | some t => some (.isl t []) | none => some (.val (.slice none 0 0))
  | c => some c
def viewCs (rd : Nat → Option Obj) (own : Bool) (π : List Nat) : List (Option ET) → List TC → Option (List TC)
  | _, [] => some []
  | [], c :: cs => match viewC rd own π none c, viewCs rd own π [] cs with
    | some d, some ds => some (d :: ds)
    | _, _ => none
  | s :: ss, c :: cs => match viewC rd own π s c, viewCs rd own π ss cs with
    | some d, some ds => some (d :: ds)
    | _, _ => none
def viewV (rd : Nat → Option Obj) (own : Bool) (π : List Nat) (sh : List (Option ET)) : TV → Option TV
  | .one c => (viewC rd own π (sh.headD none) c).map .one
  | .agg cs => (viewCs rd own π sh cs).map .agg
  | _ => none
def viewVs (rd : Nat → Option Obj) (own : Bool) (π : List Nat) : List (List (Option ET)) → List TV → Option (List TV)
  | _, [] => some []
  | [], v :: vs => match viewV rd own π [] v, viewVs rd own π [] vs with
    | some d, some ds => some (d :: ds)
    | _, _ => none
  | s :: ss, v :: vs => match viewV rd own π s v, viewVs rd own π ss vs with
    | some d, some ds => some (d :: ds)
    | _, _ => none
def viewO (rd : Nat → Option Obj) (π : List Nat) (k : Nat) : Option Obj :=
  match rd k with
  | some (.cells cs) => (viewCs rd true π [] cs).map .cells
  | some (.arr t xs) => some (.arr t xs)
  | none => none

/-- A callee's number of an object as the caller's. -/
def ren (π : List Nat) (n j : Nat) : Nat := if j < π.length then π.getD j 0 else n + (j - π.length)
def renC (π : List Nat) (n : Nat) : TC → TC
  | .ptr k off => .ptr (ren π n k) off
  | .eptr k sz i j => .eptr (ren π n k) sz i j
  | .osl t k off len => .osl t (ren π n k) off len
  | .fn f cs => .fn f (cs.map fun q => (ren π n q.1, q.2))
  | c => c
def renV (π : List Nat) (n : Nat) : TV → TV
  | .one c => .one (renC π n c)
  | .agg cs => .agg (cs.map (renC π n))
  | .tup vs => .tup (renVs π n vs)
  | .gd c v => .gd c (renV π n v)
where renVs (π : List Nat) (n : Nat) : List TV → List TV
  | [] => []
  | v :: vs => renV π n v :: renVs π n vs
def renO (π : List Nat) (n : Nat) : Obj → Obj
  | .cells cs => .cells (cs.map (renC π n))
  | .arr t xs => .arr t xs

/-- Does a value hold a slice that is not the call's own? -/
def freeC : TC → Bool
  | .isl _ _ => false
  | .ip _ _ => false
  | _ => true
def freeV : TV → Bool
  | .one c => freeC c
  | .agg cs => cs.all freeC
  | .tup vs => freeVs vs
  | .gd _ _ => false
where freeVs : List TV → Bool
  | [] => true
  | v :: vs => freeV v && freeVs vs
def freeO : Obj → Bool
  | .cells cs => cs.all freeC
  | .arr _ _ => true

def callWith (rd : Nat → Option Obj) (n : Nat) (ct : Ct) (args : List TV) : St :=
  let π := handed rd ct.own args
  match viewVs rd ct.own π ct.sh args, mapO (viewO rd π) π with
  | some as, some os => match ct.spec as os with
    | ⟨p, v, upd, news⟩ => ⟨p ∧ (ct.own || freeV v) = true ∧ (upd.all fun q => (ct.own || (q.2.map freeO).getD true) && decide (q.1 < π.length)) = true ∧ (ct.own || news.all freeO) = true,
        renV π n v, upd.map fun q => (ren π n q.1, q.2.map (renO π n)), news.map (renO π n)⟩
  | _, _ => no
def capArgs (cs : List (Nat × Nat)) : List TV := cs.map fun q => .one (.ptr q.1 q.2)
def callv (Γ : FuncId → Option Ct) (rd : Nat → Option Obj) (n : Nat) (f : TV) (args : List TV) : St :=
  match f with
  | .one (.fn g cs) => match Γ g with
    | some ct => callWith rd n ct (args ++ capArgs cs)
    | none => no
  | _ => no

/-! ### One operation -/

structure Env where
  ti : TypeId → TI
  Γ : FuncId → Option Ct
  sk : List Nat

def look : List (Nat × TV) → Nat → TV
  | [], _ => .one .any
  | (j, v) :: r, i => if j = i then v else look r i
def strip : TV → TV
  | .gd _ v => v
  | v => v
def constV : Value → TV
  | .agg cs => .agg (cs.toList.map .val)
  | v => .one (.val v)
def opd (sl : List (Nat × TV)) : Operand → TV
  | .tmp t => strip (look sl t)
  | .const v => constV v
  | .func f => .one (.fn f [])
  | .global _ => .one .any
/-- A guarded value is looked at under its guard alone. -/
def under (g : Bool) (sl : List (Nat × TV)) : Operand → Prop
  | .tmp t => match look sl t with
    | .gd c _ => g = true → c = true
    | _ => True
  | _ => True
def underAll (g : Bool) (sl : List (Nat × TV)) : List Operand → Prop
  | [] => True
  | x :: r => under g sl x ∧ underAll g sl r

def minv : List TV → St
  | [.one (.val (.int k a)), .one (.val (.int k' b))] => ifp (k = k') (.one (.val (.int k (if b < a then b else a))))
  | _ => no

def cellEq : TC → TC → Option Bool
  | .val (.int _ a), .val (.int _ b) => some (a == b)
  | .val (.string a), .val (.string b) => some (a.toList == b.toList)
  | .val (.bool a), .val (.bool b) => some (a == b)
  | _, _ => none
def cellsEq : List TC → List TC → Option Bool
  | [], [] => some true
  | a :: as, b :: bs => match cellEq a b, cellsEq as bs with
    | some x, some y => some (x && y)
    | _, _ => none
  | _, _ => none

def eqv (ti : TypeId → TI) (neg : Bool) (t : TypeId) (x y : TV) : St :=
  match (ti t).k, x, y with
  | .iface, .one .ifc, .one (.val .nilIface) => is (vb neg)
  | .sl _, .one (.isl _ xs), .one (.val (.slice none 0 0)) => is (.one (if neg then .nb True (xs = []) else .nb (xs = []) True))
  | .sl _, .one (.osl _ _ _ len), .one (.val (.slice none 0 0)) => is (.one (if neg then .nb True (len = 0) else .nb (len = 0) True))
  | .st _, .agg xs, .agg ys => (match (ti t).et with
    | some e => match e.kinds, plain xs, plain ys with
      | some ks, some us, some vs => ifp (kindsOk ks us = true ∧ kindsOk ks vs = true) (vb (if neg then !(valsEq us vs) else valsEq us vs))
      | _, _, _ => no
    | none => no)
  | _, _, _ => no
def eqop (ti : TypeId → TI) (op : BinOp) (t : TypeId) (x y : TV) : St :=
  match op with
  | .eql => eqv ti false t x y
  | .neq => eqv ti true t x y
  | _ => no

def binOpv (ti : TypeId → TI) (op : BinOp) (t : TypeId) (x y : TV) : St :=
  match x, y with
  | .one (.val (.bool p)), .one (.val (.bool q)) => (match (ti t).k, op with | .bool, .eql => is (vb (p == q)) | .bool, .neq => is (vb (!(p == q))) | _, _ => no)
  | .one (.val (.int k a)), .one (.val (.int k' b)) => binv op (.int k a) (.int k' b)
  | .one (.val (.string a)), .one (.val (.string b)) => binv op (.string a) (.string b)
  | x, y => eqop ti op t x y

def builtinv (E : Env) (rd : Nat → Option Obj) (n : Nat) (b : Builtin) (ts : List TypeId) (args : List TV) : St :=
  match b, ts, args with
  | .len, [t], [x] => lenv E.ti t x
  | .append, [s, t], [x, y] => appendv E.ti rd n s t x y
  | .min, _, xs => minv xs
  | _, _, _ => no

def opv (E : Env) (rd : Nat → Option Obj) (n : Nat) (sl : List (Nat × TV)) : Op → St
  | .move x => is (opd sl x)
  | .assign x => is (opd sl x)
  | .pick c0 a b => match opd sl c0, opd sl a, opd sl b with
    | .one (.val (.bool c)), .one (.val (.bool x)), .one (.val (.bool y)) => ifp (under true sl c0 ∧ under c sl a ∧ under (!c) sl b) (vb (if c then x else y))
    | .one (.val (.bool c)), x, y => ifp (under true sl c0 ∧ under c sl a ∧ under (!c) sl b) (if c then x else y)
    | _, _, _ => no
  | .alloc t => boxv E.ti n t (zeroOf E.ti t)
  | .box t x => boxv E.ti n t (opd sl x)
  | .build t ps => buildv E.ti t (ps.toList.map fun q => (q.1, opd sl q.2))
  | .buildSlice t len ps => litv E.ti n t len (ps.toList.map fun q => (q.1, opd sl q.2))
  | .load t a => loadv E.ti rd t (opd sl a)
  | .store t a x => storev E.ti rd t (opd sl a) (opd sl x)
  | .nilCheck x => match opd sl x with
    | .one (.ptr k o) => is (.one (.ptr k o))
    | .one (.eptr k sz i j) => is (.one (.eptr k sz i j))
    | .one (.ip cs o) => is (.one (.ip cs o))
    | .one (.fn f cs) => is (.one (.fn f cs))
    | _ => no
  | .binOp op t x y _ => binOpv E.ti op t (opd sl x) (opd sl y)
  | .unOp op _ x => unv op (opd sl x)
  | .convert s d x => convv E.ti rd n s d (opd sl x)
  | .makeFunc (.func f) first cs => match first.toList, caps (cs.toList.map (opd sl)) with
    | [], some qs => is (.one (.fn f qs))
    | _, _ => no
  | .makeSlice t l c => makev E.ti n t (opd sl l) (opd sl c)
  | .slice t x lo hi none => slicev E.ti rd t (opd sl x) (lo.map (opd sl)) (hi.map (opd sl))
  | .fieldAddr s x f => fieldv E.ti s f (opd sl x)
  | .field s x f => fieldOf E.ti s f (opd sl x)
  | .indexAddr t x i => indexv E.ti rd t (opd sl x) (opd sl i)
  | .index t x i => indexOf E.ti t (opd sl x) (opd sl i)
  | .extract t i => match opd sl t with
    | .tup vs => match vs[i]? with
      | some v => is v
      | none => no
    | _ => no
  | .call c => match c.callee with
    | .builtin b => builtinv E rd n b c.argTypes.toList (c.args.toList.map (opd sl))
    | .value f => callv E.Γ rd n (opd sl f) (c.args.toList.map (opd sl))
    | _ => no
  | _ => no

/-- What one operation looks at. -/
def footV (sl : List (Nat × TV)) (xs : List Operand) : List Nat := xs.flatMap fun x => refsV true (opd sl x)
def footCall (Γ : FuncId → Option Ct) (rd : Nat → Option Obj) (f : TV) (args : List TV) : List Nat :=
  match f with
  | .one (.fn g cs) => match Γ g with
    | some ct => handed rd ct.own (args ++ capArgs cs)
    | none => []
  | _ => []
def reads : Op → Bool
  | .load .. => true
  | .store .. => true
  | .convert .. => true
  | .slice .. => true
  | .indexAddr .. => true
  | .call .. => true
  | _ => false
def foot (E : Env) (rd : Nat → Option Obj) (sl : List (Nat × TV)) (op : Op) : List Nat :=
  (if reads op then footV sl op.operands.toList else []) ++ match op with
    | .call c => match c.callee with
      | .value f => footCall E.Γ rd (opd sl f) (c.args.toList.map (opd sl))
      | _ => []
    | _ => []

/-! ### Regions -/

structure Sg where
  sl : List (Nat × TV)
  tab : List (Option Obj)
  tch : List Nat

def rdT (tab : List (Option Obj)) (k : Nat) : Option Obj := (tab[k]?).getD none
def setT (tab : List (Option Obj)) : List (Nat × Option Obj) → List (Option Obj)
  | [] => tab
  | (k, o) :: r => setT (if (rdT tab k).isSome then tab.set k o else tab) r
def putS (sl : List (Nat × TV)) (dst : Option Tmp) (v : TV) : List (Nat × TV) :=
  match dst with
  | some d => (d, v) :: sl
  | none => sl
/-- The objects of the caller's that have been turned. -/
def touch (m : Nat) (tch : List Nat) : List (Nat × Option Obj) → List Nat
  | [] => tch
  | (k, _) :: r => touch m (if k < m then k :: tch else tch) r

/-- The guard of an operation: none, if it can't be told. -/
def gcond (ops : List Oper) (sl : List (Nat × TV)) (o : Oper) : Option Bool :=
  match o.guard with
  | none => some true
  | some (j, want) => match (ops[j]?).bind (·.dst) with
    | none => none
    | some d => match look sl d with
      | .one (.val (.bool b)) => some (if want then b else !b)
      | .gd c (.one (.val (.bool b))) => some (c && if want then b else !b)
      | _ => none
def isPick : Op → Bool
  | .pick .. => true
  | _ => false
def operandsOf (o : Op) : List Operand := if isPick o then [] else o.operands.toList
def dstOk (n : Nat) : Option Tmp → Prop
  | some d => d < n
  | none => True

/-- What is done under a guard. -/
def gl {α : Type} (g : Bool) (l : List α) : List α := if g then l else []
/-- Is the operation one of those that are to be passed over? -/
def passed (sk : List Nat) : Option Tmp → Bool
  | some d => sk.contains d
  | none => false
/-- One operation of a region, under its guard; n: how many slots there are, m: how many objects are the caller's. -/
def stepv (E : Env) (n m : Nat) (ops : List Oper) (o : Oper) (σ : Sg) (K : Sg → List Nat → Prop) : Prop :=
  match o.guard with
  | none => match opv E (rdT σ.tab) σ.tab.length σ.sl o.op with
    | ⟨p, v, upd, news⟩ => dstOk n o.dst ∧ underAll true σ.sl (operandsOf o.op) ∧ p ∧ K ⟨putS σ.sl o.dst v, setT σ.tab upd ++ news.map some, touch m σ.tch upd⟩ (upd.map (·.1) ++ (List.range news.length).map (σ.tab.length + ·))
  | some _ => if passed E.sk o.dst then gcond ops σ.sl o = some false ∧ dstOk n o.dst ∧ K ⟨putS σ.sl o.dst (.gd false (.one .any)), σ.tab, σ.tch⟩ [] else match gcond ops σ.sl o with
    | none => False
    | some g => match opv E (rdT σ.tab) σ.tab.length σ.sl o.op with
      | ⟨p, v, upd, news⟩ => dstOk n o.dst ∧ (g = true → underAll g σ.sl (operandsOf o.op) ∧ p) ∧ K ⟨putS σ.sl o.dst (.gd g v), setT σ.tab (gl g upd) ++ (gl g news).map some, touch m σ.tch (gl g upd)⟩ ((gl g upd).map (·.1) ++ (List.range (gl g news).length).map (σ.tab.length + ·))

def goOps (E : Env) (n m : Nat) (ops : List Oper) : List Oper → Sg → (Sg → Prop) → Prop
  | [], σ, K => K σ
  | o :: r, σ, K => stepv E n m ops o σ fun σ' _ => goOps E n m ops r σ' K

/-! ### Regions whose order is drawn -/

def depsOf (o : Oper) : List Nat := o.after.toList.filterMap fun e => if Region.binds .any e then some e.on else none
/-- For each operation all that must come ahead of it. -/
def uni (ds : List Nat) (acc : List (List Nat)) : List Nat := (ds ++ ds.flatMap fun d => acc.getD d []).foldl addNew []
def ancT : List Oper → List (List Nat) → List (List Nat)
  | [], acc => acc
  | o :: r, acc => ancT r (acc ++ [uni (depsOf o) acc])
def tmpsOf : List Operand → List Nat
  | [] => []
  | .tmp t :: r => t :: tmpsOf r
  | _ :: r => tmpsOf r
/-- The slots that an operation names. -/
def namesOf (ops : List Oper) (o : Oper) : List Nat :=
  o.dst.toList ++ tmpsOf o.op.operands.toList ++ (match o.guard with | some (j, _) => ((ops[j]?).bind (·.dst)).toList | none => [])
def apartL (xs ys : List Nat) : Bool := xs.all fun x => !ys.contains x
def pairOk (ops : List Oper) (oi oj : Oper) (li lj : List Nat × List Nat) : Bool :=
  apartL li.2 lj.1 && apartL li.2 lj.2 && apartL lj.2 li.1 && apartL oi.dst.toList (namesOf ops oj) && apartL oj.dst.toList (namesOf ops oi)
/-- May the operations be carried out in any order that their edges allow? -/
def drawOk (ops : List Oper) (log : List (List Nat × List Nat)) : Bool :=
  let A := ancT ops []
  (List.range ops.length).all fun j =>
    ((ops[j]?).map fun oj => (depsOf oj).all (· < j) &&
      (List.range j).all fun i => (A.getD j []).contains i || ((ops[i]?).map fun oi => pairOk ops oi oj (log.getD i ([], [])) (log.getD j ([], []))).getD false).getD false

def goOpsD (E : Env) (n m : Nat) (all : List Oper) : List Oper → Sg → List (List Nat × List Nat) → (Sg → Prop) → Prop
  | [], σ, log, K => drawOk all log.reverse = true ∧ K σ
  | o :: r, σ, log, K => stepv E n m all o σ fun σ' ws => goOpsD E n m all r σ' ((foot E (rdT σ.tab) σ.sl o.op, ws) :: log) K

end Go.Proofs.Ytjdpppbegjnpaaa
