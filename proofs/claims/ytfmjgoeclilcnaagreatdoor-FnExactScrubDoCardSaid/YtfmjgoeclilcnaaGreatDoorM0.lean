import Derived.Below
import Derived.Laws.Cells
import Derived.Laws.IdiomCopy
import Derived.Laws.Sem
import Derived.Laws.Small
import Derived.Laws.StructEq
import Derived.Lib.ItoaNum
import Derived.Orders
import Derived.WalkKit
set_option linter.unusedSimpArgs false
set_option linter.unusedVariables false
set_option linter.unusedSectionVars false
namespace Go.Proofs.YtfmjgoeclilcnaaGreatDoor
structure Late where
 side : Int
 at_ : Int
 text : ByteArray
structure Ptr where
 at_ : Int
 sum : Int
 birth : Int
structure Ent where
 sum : Int
 at_ : Int
 count : Int
structure Eight (α : Type) where
 x0 : α
 x1 : α
 x2 : α
 x3 : α
 x4 : α
 x5 : α
 x6 : α
 x7 : α
def Eight.rep {α : Type} (a : α) : Eight α := ⟨a, a, a, a, a, a, a, a⟩
structure BSet where
 name : ByteArray
 kind : Int
 from_ : ByteArray
 blocks : Eight ByteArray
structure CSet where
 name : ByteArray
 kind : Int
 from_ : ByteArray
 map : Eight Ptr
 home : Ptr
 dirty : Bool
structure BOp where
 kind : Int
 a : ByteArray
 b : ByteArray
 i : Int
 text : ByteArray
inductive ET where
 | str | int | byte | late | ptr | ent | bset | cset | bop
 deriving DecidableEq
abbrev ET.α : ET → Type
 | .str => ByteArray
 | .int => Int
 | .byte => UInt8
 | .late => Late
 | .ptr => Ptr
 | .ent => Ent
 | .bset => BSet
 | .cset => CSet
 | .bop => BOp
def ET.sz : ET → Nat
 | .str => 1
 | .int => 1
 | .byte => 1
 | .late => 3
 | .ptr => 3
 | .ent => 3
 | .bset => 11
 | .cset => 31
 | .bop => 5
def i64 (n : Int) : Value := .int .i64 n
def Ptr.cells (p : Ptr) : List Value := [.int .i64 p.at_, .int .i64 p.sum, .int .i64 p.birth]
def ET.cells : (t : ET) → t.α → List Value
 | .str, s => [.string s]
 | .int, n => [.int .i64 n]
 | .byte, b => [.int .u8 b.toNat]
 | .late, x => [.int .i64 x.side, .int .i64 x.at_, .string x.text]
 | .ptr, p => p.cells
 | .ent, e => [.int .i64 e.sum, .int .i64 e.at_, .int .i64 e.count]
 | .bset, s => [.string s.name, .int .i64 s.kind, .string s.from_, .string s.blocks.x0, .string s.blocks.x1, .string s.blocks.x2, .string s.blocks.x3, .string s.blocks.x4, .string s.blocks.x5, .string s.blocks.x6, .string s.blocks.x7]
 | .cset, s => [.string s.name, .int .i64 s.kind, .string s.from_, .int .i64 s.map.x0.at_, .int .i64 s.map.x0.sum, .int .i64 s.map.x0.birth, .int .i64 s.map.x1.at_, .int .i64 s.map.x1.sum, .int .i64 s.map.x1.birth, .int .i64 s.map.x2.at_, .int .i64 s.map.x2.sum, .int .i64 s.map.x2.birth, .int .i64 s.map.x3.at_, .int .i64 s.map.x3.sum, .int .i64 s.map.x3.birth, .int .i64 s.map.x4.at_, .int .i64 s.map.x4.sum, .int .i64 s.map.x4.birth, .int .i64 s.map.x5.at_, .int .i64 s.map.x5.sum, .int .i64 s.map.x5.birth, .int .i64 s.map.x6.at_, .int .i64 s.map.x6.sum, .int .i64 s.map.x6.birth, .int .i64 s.map.x7.at_, .int .i64 s.map.x7.sum, .int .i64 s.map.x7.birth, .int .i64 s.home.at_, .int .i64 s.home.sum, .int .i64 s.home.birth, .bool s.dirty]
 | .bop, o => [.int .i64 o.kind, .string o.a, .string o.b, .int .i64 o.i, .string o.text]
def Value.str : Value → ByteArray
 | .string s => s
 | _ => ⟨#[]⟩
def Value.num : Value → Int
 | .int _ n => n
 | _ => 0
def Value.boo : Value → Bool
 | .bool b => b
 | _ => false
def ptrOf : List Value → Ptr
 | [a, b, c] => ⟨Value.num a, Value.num b, Value.num c⟩
 | _ => ⟨0, 0, 0⟩
def cell (cs : List Value) (i : Nat) : Value := cs.getD i (.tuple #[])
def ET.ofCells : (t : ET) → List Value → t.α
 | .str, cs => Value.str (cell cs 0)
 | .int, cs => Value.num (cell cs 0)
 | .byte, cs => UInt8.ofNat (Value.num (cell cs 0)).toNat
 | .late, cs => ⟨Value.num (cell cs 0), Value.num (cell cs 1), Value.str (cell cs 2)⟩
 | .ptr, cs => ptrOf cs
 | .ent, cs => ⟨Value.num (cell cs 0), Value.num (cell cs 1), Value.num (cell cs 2)⟩
 | .bset, cs => ⟨Value.str (cell cs 0), Value.num (cell cs 1), Value.str (cell cs 2), ⟨Value.str (cell cs 3), Value.str (cell cs 4), Value.str (cell cs 5), Value.str (cell cs 6), Value.str (cell cs 7), Value.str (cell cs 8), Value.str (cell cs 9), Value.str (cell cs 10)⟩⟩
 | .cset, cs => ⟨Value.str (cell cs 0), Value.num (cell cs 1), Value.str (cell cs 2), ⟨⟨Value.num (cell cs 3), Value.num (cell cs 4), Value.num (cell cs 5)⟩, ⟨Value.num (cell cs 6), Value.num (cell cs 7), Value.num (cell cs 8)⟩, ⟨Value.num (cell cs 9), Value.num (cell cs 10), Value.num (cell cs 11)⟩, ⟨Value.num (cell cs 12), Value.num (cell cs 13), Value.num (cell cs 14)⟩, ⟨Value.num (cell cs 15), Value.num (cell cs 16), Value.num (cell cs 17)⟩, ⟨Value.num (cell cs 18), Value.num (cell cs 19), Value.num (cell cs 20)⟩, ⟨Value.num (cell cs 21), Value.num (cell cs 22), Value.num (cell cs 23)⟩, ⟨Value.num (cell cs 24), Value.num (cell cs 25), Value.num (cell cs 26)⟩⟩, ⟨Value.num (cell cs 27), Value.num (cell cs 28), Value.num (cell cs 29)⟩, Value.boo (cell cs 30)⟩
 | .bop, cs => ⟨Value.num (cell cs 0), Value.str (cell cs 1), Value.str (cell cs 2), Value.num (cell cs 3), Value.str (cell cs 4)⟩
def Ptr.zero : Ptr := ⟨0, 0, 0⟩
def ET.dflt : (t : ET) → t.α
 | .str => ⟨#[]⟩
 | .int => (0 : Int)
 | .byte => (0 : UInt8)
 | .late => ⟨0, 0, ⟨#[]⟩⟩
 | .ptr => Ptr.zero
 | .ent => ⟨0, 0, 0⟩
 | .bset => ⟨⟨#[]⟩, 0, ⟨#[]⟩, Eight.rep ⟨#[]⟩⟩
 | .cset => ⟨⟨#[]⟩, 0, ⟨#[]⟩, Eight.rep Ptr.zero, Ptr.zero, false⟩
 | .bop => ⟨0, ⟨#[]⟩, ⟨#[]⟩, 0, ⟨#[]⟩⟩
def ET.at (t : ET) (xs : List t.α) (i : Nat) : t.α := xs.getD i t.dflt
inductive TC where
 | val (v : Value)
 | ptr (k off : Nat)
 | eptr (k sz i j : Nat)
 | osl (t : ET) (k off len : Nat)
 | isl (t : ET) (xs : List t.α)
 | ip (cs : List Value) (off : Nat)
 | fn (f : FuncId) (caps : List (Nat × Nat))
 | ifc
 | nb (p q : Prop)
 | any
inductive TV where
 | one (c : TC)
 | agg (cs : List TC)
 | tup (vs : List TV)
 | gd (c : Bool) (v : TV)
inductive Obj where
 | cells (cs : List TC)
 | arr (t : ET) (xs : List t.α)
inductive TK where
 | int (k : IntKind)
 | str
 | bool
 | iface
 | sl (elem : TypeId)
 | arr (n : Nat) (elem : TypeId)
 | st (fs : List (Nat × TypeId))
 | ptr (elem : TypeId)
 | other
structure TI where
 k : TK
 agg : Bool
 sz : Nat
 bytes : Nat
 zero : List Value
 et : Option ET
 eks : Option (List TK)
def ET.kinds : ET → Option (List TK)
 | .late => some [.int .i64, .int .i64, .str]
 | .ptr => some [.int .i64, .int .i64, .int .i64]
 | .ent => some [.int .i64, .int .i64, .int .i64]
 | .bset => some [.str, .int .i64, .str, .str, .str, .str, .str, .str, .str, .str, .str]
 | .cset => some [.str, .int .i64, .str, .int .i64, .int .i64, .int .i64, .int .i64, .int .i64, .int .i64, .int .i64, .int .i64, .int .i64, .int .i64, .int .i64, .int .i64, .int .i64, .int .i64, .int .i64, .int .i64, .int .i64, .int .i64, .int .i64, .int .i64, .int .i64, .int .i64, .int .i64, .int .i64, .int .i64, .int .i64, .int .i64, .bool]
 | .bop => some [.int .i64, .str, .str, .int .i64, .str]
 | _ => none
def kindsOk : List TK → List Value → Bool
 | [], [] => true
 | .int .i64 :: ks, .int .i64 _ :: vs => kindsOk ks vs
 | .str :: ks, .string _ :: vs => kindsOk ks vs
 | .bool :: ks, .bool _ :: vs => kindsOk ks vs
 | _, _ => false
def valsEq : List Value → List Value → Bool
 | .int _ a :: xs, .int _ b :: ys => (a == b) && valsEq xs ys
 | .string a :: xs, .string b :: ys => (a.toList == b.toList) && valsEq xs ys
 | .bool a :: xs, .bool b :: ys => (a == b) && valsEq xs ys
 | _, _ => true
structure St where
 pre : Prop
 v : TV
 upd : List (Nat × Option Obj)
 news : List Obj
def no : St := ⟨False, .one .any, [], []⟩
def is (v : TV) : St := ⟨True, v, [], []⟩
def ifp (p : Prop) (v : TV) : St := ⟨p, v, [], []⟩
def vb (b : Bool) : TV := .one (.val (.bool b))
def vi (n : Int) : TV := .one (.val (.int .i64 n))
def vs (s : ByteArray) : TV := .one (.val (.string s))
def TV.cells : TV → List TC
 | .one c => [c]
 | .agg cs => cs
 | _ => []
def TV.isAgg : TV → Bool
 | .agg _ => true
 | _ => false
def tcv : TC → Option Value
 | .val v => some v
 | _ => none
def plain : List TC → Option (List Value)
 | [] => some []
 | c :: cs => match tcv c, plain cs with
   | some v, some vs => some (v :: vs)
   | _, _ => none
def asI : TV → Option Int
 | .one (.val (.int _ n)) => some n
 | _ => none
def andZ (k : IntKind) (x y : Int) : Int := ((BitVec.ofInt k.bits x &&& BitVec.ofInt k.bits y).toNat : Nat)
def binv (op : BinOp) (a b : Value) : St :=
 match a, b with
 | .int k x, .int k' y =>
   match op with
   | .add => ifp (k = k') (.one (.val (.int k (k.wrap (x + y)))))
   | .sub => ifp (k = k') (.one (.val (.int k (k.wrap (x - y)))))
   | .mul => ifp (k = k') (.one (.val (.int k (k.wrap (x * y)))))
   | .quo => ifp (k = k' ∧ y ≠ 0) (.one (.val (.int k (k.wrap (x.tdiv y)))))
   | .rem => ifp (k = k' ∧ y ≠ 0) (.one (.val (.int k (x.tmod y))))
   | .eql => ifp (k = k') (vb (x == y))
   | .neq => ifp (k = k') (vb (x != y))
   | .lss => ifp (k = k') (vb (decide (x < y)))
   | .leq => ifp (k = k') (vb (decide (x ≤ y)))
   | .gtr => ifp (k = k') (vb (decide (x > y)))
   | .geq => ifp (k = k') (vb (decide (x ≥ y)))
   | .and => ifp (k = k') (.one (.val (.int k (k.wrap (andZ k x y)))))
   | .or => ifp (k = k') (.one (.val (.int k (k.wrap (BitVec.ofInt k.bits x ||| BitVec.ofInt k.bits y).toNat))))
   | .xor => ifp (k = k') (.one (.val (.int k (k.wrap (BitVec.ofInt k.bits x ^^^ BitVec.ofInt k.bits y).toNat))))
   | .shl => ifp (0 ≤ y) (.one (.val (.int k (k.wrap (x * 2 ^ (min y.toNat k.bits))))))
   | .shr => ifp (0 ≤ y) (.one (.val (.int k (x.fdiv (2 ^ (min y.toNat k.bits))))))
   | _ => no
 | .string x, .string y =>
   match op with
   | .add => ifp (x.size + y.size ≤ 9223372036854775807) (vs (x ++ y))
   | .eql => is (vb (x.toList == y.toList))
   | .neq => is (vb (!(x.toList == y.toList)))
   | .lss => is (vb (Op.bytesLess x.toList y.toList))
   | .leq => is (vb (Op.bytesLess x.toList y.toList || x.toList == y.toList))
   | .gtr => is (vb (!(Op.bytesLess x.toList y.toList || x.toList == y.toList)))
   | .geq => is (vb (!(Op.bytesLess x.toList y.toList)))
   | _ => no
 | _, _ => no
def unv (op : UnOp) (a : TV) : St :=
 match op, a with
 | .not, .one (.val (.bool b)) => is (vb !b)
 | .neg, .one (.val (.int k x)) => is (.one (.val (.int k (k.wrap (0 - x)))))
 | _, _ => no
def lohi (len : Nat) (lo hi : Option TV) : Prop × Nat × Nat :=
 match lo, hi with
 | none, none => (True, 0, len)
 | some l, none => match asI l with | some i => (0 ≤ i ∧ i ≤ len, i.toNat, len) | none => (False, 0, 0)
 | none, some h => match asI h with | some j => (0 ≤ j ∧ j ≤ len, 0, j.toNat) | none => (False, 0, 0)
 | some l, some h => match asI l, asI h with | some i, some j => (0 ≤ i ∧ i ≤ j ∧ j ≤ len, i.toNat, j.toNat) | _, _ => (False, 0, 0)
def content (rd : Nat → Option Obj) (t : ET) : TC → Option (List t.α)
 | .isl t' xs => if h : t' = t then some (h ▸ xs) else none
 | .osl t' k off len => match rd k with
   | some (.arr t'' xs) => if h : t'' = t then if t' = t then if off + len ≤ xs.length then some ((h ▸ xs : List t.α).drop off |>.take len) else none else none else none
   | _ => none
 | .val (.slice none 0 0) => some []
 | _ => none
def cellsStr : List TC → Option (List ByteArray)
 | [] => some []
 | .val (.string s) :: r => (cellsStr r).map (s :: ·)
 | _ => none
def cellsPtr : List TC → Option (List Ptr)
 | [] => some []
 | .val (.int .i64 a) :: .val (.int .i64 b) :: .val (.int .i64 c) :: r => (cellsPtr r).map (⟨a, b, c⟩ :: ·)
 | _ => none
def cellsE : (t : ET) → List TC → Option (List t.α)
 | .str, cs => cellsStr cs
 | .ptr, cs => cellsPtr cs
 | _, _ => none
def part (off n : Nat) (cs : List TC) : List TC := (cs.drop off).take n
def lay : Nat → List TC → List TC → List TC
 | _, [], cs => cs
 | off, v :: vs, cs => lay (off + 1) vs (cs.set off v)
def layV : Nat → List Value → List Value → List Value
 | _, [], cs => cs
 | off, v :: vs, cs => layV (off + 1) vs (cs.set off v)
def asVal (agg : Bool) (sz off : Nat) (cs : List TC) : TV := if agg then .agg (part off sz cs) else .one (cs.getD off .any)
def loadv (ti : TypeId → TI) (rd : Nat → Option Obj) (t : TypeId) : TV → St
 | .one (.ptr k off) => match rd k with
   | some (.cells cs) => ifp (off + (ti t).sz ≤ cs.length ∧ 0 < (ti t).sz) (asVal (ti t).agg (ti t).sz off cs)
   | _ => no
 | .one (.eptr k sz i j) => match rd k with
   | some (.arr t' xs) => ifp (i < xs.length ∧ sz = t'.sz ∧ j + (ti t).sz ≤ sz ∧ 0 < (ti t).sz) (asVal (ti t).agg (ti t).sz j ((t'.cells (t'.at xs i)).map .val))
   | _ => no
 | .one (.ip cs off) => ifp (off + (ti t).sz ≤ cs.length ∧ 0 < (ti t).sz) (asVal (ti t).agg (ti t).sz off (cs.map .val))
 | _ => no
def oneCell : Value → Bool
 | .agg _ => false
 | .tuple _ => false
 | _ => true
def storable : TC → Prop
 | .any => False
 | .val v => oneCell v = true
 | _ => True
def allStorable : List TC → Prop
 | [] => True
 | c :: cs => storable c ∧ allStorable cs
def storev (ti : TypeId → TI) (rd : Nat → Option Obj) (t : TypeId) (a v : TV) : St :=
 match a with
 | .one (.ptr k off) => match rd k with
   | some (.cells cs) => ⟨off + (ti t).sz ≤ cs.length ∧ v.cells.length = (ti t).sz ∧ allStorable v.cells ∧ 0 < (ti t).sz, .one .any, [(k, some (.cells (lay off v.cells cs)))], []⟩
   | _ => no
 | .one (.eptr k sz i j) => match rd k, plain v.cells with
   | some (.arr t' xs), some vs =>
     ⟨i < xs.length ∧ sz = t'.sz ∧ j + (ti t).sz ≤ sz ∧ vs.length = (ti t).sz ∧ allStorable v.cells ∧ t'.cells (t'.ofCells (layV j vs (t'.cells (t'.at xs i)))) = layV j vs (t'.cells (t'.at xs i)) ∧ 0 < (ti t).sz,
      .one .any, [(k, some (.arr t' (xs.set i (t'.ofCells (layV j vs (t'.cells (t'.at xs i)))))))], []⟩
   | _, _ => no
 | _ => no
def fieldAt (ti : TypeId → TI) (s : TypeId) (f : Nat) : Option (Nat × TypeId) :=
 match (ti s).k with
 | .st fs => fs[f]?
 | _ => none
def fieldv (ti : TypeId → TI) (s : TypeId) (f : Nat) (x : TV) : St :=
 match fieldAt ti s f with
 | none => no
 | some (o, ft) => match x with
   | .one (.ptr k off) => ifp (0 < (ti ft).sz) (.one (.ptr k (off + o)))
   | .one (.eptr k sz i j) => ifp (0 < (ti ft).sz) (.one (.eptr k sz i (j + o)))
   | .one (.ip cs off) => ifp (0 < (ti ft).sz) (.one (.ip cs (off + o)))
   | _ => no
def fieldOf (ti : TypeId → TI) (s : TypeId) (f : Nat) (x : TV) : St :=
 match fieldAt ti s f, x with
 | some (o, ft), .agg cs => ifp (o + (ti ft).sz ≤ cs.length ∧ 0 < (ti ft).sz) (asVal (ti ft).agg (ti ft).sz o cs)
 | _, _ => no
def indexv (ti : TypeId → TI) (rd : Nat → Option Obj) (t : TypeId) (x ix : TV) : St :=
 match asI ix with
 | none => no
 | some i => match (ti t).k with
   | .arr n e => match x with
     | .one (.ptr k off) => ifp ((0 ≤ i ∧ i < n) ∧ 0 < (ti e).sz) (.one (.ptr k (off + i.toNat * (ti e).sz)))
     | .one (.eptr k sz i0 j) => ifp ((0 ≤ i ∧ i < n) ∧ 0 < (ti e).sz) (.one (.eptr k sz i0 (j + i.toNat * (ti e).sz)))
     | .one (.ip cs off) => ifp ((0 ≤ i ∧ i < n) ∧ 0 < (ti e).sz) (.one (.ip cs (off + i.toNat * (ti e).sz)))
     | _ => no
   | .sl e => match x with
     | .one (.isl t' xs) => ifp (0 ≤ i ∧ i < xs.length ∧ (ti e).sz = t'.sz) (.one (.ip (t'.cells (t'.at xs i.toNat)) 0))
     | .one (.osl t' k off len) => match rd k with
       | some (.arr t'' xs) => ifp (0 ≤ i ∧ i < len ∧ off + len ≤ xs.length ∧ (ti e).sz = t'.sz ∧ t' = t'') (.one (.eptr k t'.sz (off + i.toNat) 0))
       | _ => no
     | _ => no
   | _ => no
def indexOf (ti : TypeId → TI) (t : TypeId) (x ix : TV) : St :=
 match asI ix with
 | none => no
 | some i => match (ti t).k, x with
   | .str, .one (.val (.string s)) => ifp (0 ≤ i ∧ i < s.size) (.one (.val (.int .u8 (s.data.getD i.toNat 0).toNat)))
   | .arr n e, .agg cs => ifp ((0 ≤ i ∧ i < n) ∧ i.toNat * (ti e).sz + (ti e).sz ≤ cs.length ∧ 0 < (ti e).sz) (asVal (ti e).agg (ti e).sz (i.toNat * (ti e).sz) cs)
   | _, _ => no
def slicev (ti : TypeId → TI) (rd : Nat → Option Obj) (t : TypeId) (x : TV) (lo hi : Option TV) : St :=
 match (ti t).k, x with
 | .str, .one (.val (.string s)) => ifp (lohi s.size lo hi).1 (vs (s.extract (lohi s.size lo hi).2.1 (lohi s.size lo hi).2.2))
 | .sl e, .one (.isl t' xs) => ifp ((lohi xs.length lo hi).1 ∧ (ti e).sz = t'.sz) (.one (.isl t' ((xs.drop (lohi xs.length lo hi).2.1).take ((lohi xs.length lo hi).2.2 - (lohi xs.length lo hi).2.1))))
 | .sl e, .one (.osl t' k off len) => match rd k with
   | some (.arr t'' xs) => ifp (t' = t'' ∧ off + len ≤ xs.length ∧ (lohi len lo hi).1 ∧ (ti e).sz = t'.sz) (.one (.osl t' k (off + (lohi len lo hi).2.1) ((lohi len lo hi).2.2 - (lohi len lo hi).2.1)))
   | _ => no
 | .arr m e, .one (.ptr k off) => match rd k, lo, hi, (ti e).et with
   | some (.cells cs), none, none, some t' => ifp ((ti e).sz = t'.sz ∧ off % t'.sz = 0 ∧ off + m * t'.sz ≤ cs.length ∧ m ≠ 0) (.one (.osl t' k (off / t'.sz) m))
   | _, _, _, _ => no
 | _, _ => no
def boxv (ti : TypeId → TI) (n : Nat) (t : TypeId) (v : TV) : St := ⟨v.cells.length = (ti t).sz ∧ 0 < (ti t).sz ∧ (ti t).agg = v.isAgg ∧ allStorable v.cells, .one (.ptr n 0), [], [.cells v.cells]⟩
def bytesMax : Nat := 281474976710656
def appendv (ti : TypeId → TI) (rd : Nat → Option Obj) (n : Nat) (sT xT : TypeId) (s x : TV) : St :=
 match (ti sT).k with
 | .sl e => match (ti e).et, (ti xT).k with
   | some t, .sl _ => match s, x with
     | .one (.osl t' k off len), .one xc => match content rd t (.osl t' k off len), content rd t xc with
       | some xs, some ys => ⟨t' = t ∧ (ti e).sz = t.sz ∧ (2 * (len + ys.length) + 1024) * (ti e).bytes ≤ bytesMax ∧ 0 < (ti e).bytes, .one (.osl t n 0 (len + ys.length)), [(k, none)], [.arr t (xs ++ ys)]⟩
       | _, _ => no
     | .one (.val (.slice none 0 0)), .one xc => match content rd t xc with
       | some ys => ⟨(ti e).sz = t.sz ∧ (2 * ys.length + 1024) * (ti e).bytes ≤ bytesMax ∧ 0 < (ti e).bytes, .one (.osl t n 0 ys.length), [], [.arr t ys]⟩
       | _ => no
     | _, _ => no
   | _, _ => no
 | _ => no
def makev (ti : TypeId → TI) (n : Nat) (t : TypeId) (len cap : TV) : St :=
 match (ti t).k with
 | .sl e => match (ti e).et, asI len, asI cap with
   | some t, some l, some c => ⟨0 ≤ l ∧ l = c ∧ (ti e).sz = t.sz ∧ c * (ti e).bytes ≤ bytesMax ∧ t.cells t.dflt = (ti e).zero ∧ 0 < (ti e).bytes, .one (.osl t n 0 l.toNat), [], [.arr t (List.replicate l.toNat t.dflt)]⟩
   | _, _, _ => no
 | _ => no
def elems (t : ET) : Nat → List (Nat × TV) → Option (Prop × List t.α)
 | _, [] => some (True, [])
 | i, (j, v) :: r => match plain v.cells, elems t (i + 1) r with
   | some vs, some (p, xs) => some (i = j ∧ allStorable v.cells ∧ t.cells (t.ofCells vs) = vs ∧ p, t.ofCells vs :: xs)
   | _, _ => none
def litv (ti : TypeId → TI) (n : Nat) (t : TypeId) (len : Nat) (parts : List (Nat × TV)) : St :=
 match (ti t).k with
 | .sl e => match (ti e).et with
   | some t => match elems t 0 parts with
     | some (p, xs) => ⟨p ∧ len = xs.length ∧ (ti e).sz = t.sz ∧ len * t.sz ≤ 16777216, .one (.osl t n 0 len), [], [.arr t xs]⟩
     | none => no
   | none => no
 | _ => no
def fills (place : Nat → Option (Nat × Nat)) : List TC → List (Nat × TV) → Option (Prop × List TC)
 | cs, [] => some (True, cs)
 | cs, (i, v) :: r => match place i with
   | none => none
   | some (off, sz) => match fills place (lay off v.cells cs) r with
     | some (p, ds) => some (v.cells.length = sz ∧ off + sz ≤ cs.length ∧ 0 < sz ∧ allStorable v.cells ∧ p, ds)
     | none => none
def placeOf (ti : TypeId → TI) (t : TypeId) (i : Nat) : Option (Nat × Nat) :=
 match (ti t).k with
 | .st fs => (fs[i]?).map fun q => (q.1, (ti q.2).sz)
 | .arr _ e => some (i * (ti e).sz, (ti e).sz)
 | _ => none
def knownAll (ti : TypeId → TI) (t : TypeId) : Bool :=
 match (ti t).k with
 | .st fs => fs.all fun q => decide (0 < (ti q.2).sz)
 | .arr _ e => decide (0 < (ti e).sz)
 | _ => false
def buildv (ti : TypeId → TI) (t : TypeId) (parts : List (Nat × TV)) : St :=
 match fills (placeOf ti t) ((ti t).zero.map .val) parts with
 | some (p, cs) => ifp ((ti t).agg = true ∧ knownAll ti t = true ∧ p) (.agg cs)
 | none => no
def caps : List TV → Option (List (Nat × Nat))
 | [] => some []
 | .one (.ptr k off) :: r => (caps r).map ((k, off) :: ·)
 | _ :: _ => none
def lenv (ti : TypeId → TI) (t : TypeId) (x : TV) : St :=
 match (ti t).k, x with
 | .str, .one (.val (.string s)) => is (vi s.size)
 | .sl _, .one (.isl _ xs) => is (vi xs.length)
 | .sl _, .one (.osl _ _ _ len) => is (vi len)
 | .sl _, .one (.val (.slice none 0 0)) => is (vi 0)
 | .arr n _, _ => is (vi n)
 | _, _ => no
def convv (ti : TypeId → TI) (rd : Nat → Option Obj) (n : Nat) (src dst : TypeId) (x : TV) : St :=
 match (ti src).k, (ti dst).k, x with
 | .int _, .int k, .one (.val (.int _ i)) => is (.one (.val (.int k (k.wrap i))))
 | .str, .str, .one (.val (.string s)) => is (vs s)
 | .str, .sl e, .one (.val (.string s)) => ⟨(ti e).k = .int .u8 ∧ (ti e).sz = 1, .one (.osl .byte n 0 s.size), [], [.arr .byte s.data.toList]⟩
 | .sl e, .str, .one c => match content rd .byte c with
   | some xs => ifp ((ti e).k = .int .u8 ∧ (ti e).sz = 1) (vs ⟨xs.toArray⟩)
   | none => no
 | _, _, _ => no
def zeroOf (ti : TypeId → TI) (t : TypeId) : TV := if (ti t).agg then .agg ((ti t).zero.map .val) else .one (((ti t).zero.map TC.val).getD 0 .any)
structure Ct where
 own : Bool
 sh : List (List (Option ET))
 spec : List TV → List Obj → St
def idxOf (π : List Nat) (k : Nat) : Option Nat :=
 match π with
 | [] => none
 | j :: r => if j = k then some 0 else (idxOf r k).map (· + 1)
def addNew (π : List Nat) (k : Nat) : List Nat := if (idxOf π k).isSome then π else π ++ [k]
def refsC (own : Bool) : TC → List Nat
 | .ptr k _ => [k]
 | .eptr k _ _ _ => [k]
 | .osl _ k _ _ => if own then [k] else []
 | .fn _ cs => cs.map (·.1)
 | _ => []
def refsV (own : Bool) : TV → List Nat
 | .one c => refsC own c
 | .agg cs => cs.flatMap (refsC own)
 | _ => []
def refsO (rd : Nat → Option Obj) (k : Nat) : List Nat :=
 match rd k with
 | some (.cells cs) => cs.flatMap (refsC true)
 | _ => []
def handed (rd : Nat → Option Obj) (own : Bool) (args : List TV) : List Nat :=
 let roots := (args.flatMap (refsV own)).foldl addNew []
 (roots.flatMap (refsO rd)).foldl addNew roots
def mapO {α β : Type} (f : α → Option β) : List α → Option (List β)
 | [] => some []
 | a :: r => match f a, mapO f r with
   | some b, some bs => some (b :: bs)
   | _, _ => none
def viewCap (π : List Nat) (q : Nat × Nat) : Option (Nat × Nat) := (idxOf π q.1).map fun j => (j, q.2)
def contentV (rd : Nat → Option Obj) (t : ET) (k off len : Nat) : Option (List t.α) :=
 match content rd t (.osl t k off len) with
 | some xs => some xs
 | none => match rd k with
   | some (.cells cs) => if (off + len) * t.sz ≤ cs.length then cellsE t (part (off * t.sz) (len * t.sz) cs) else none
   | _ => none
def viewC (rd : Nat → Option Obj) (own : Bool) (π : List Nat) (sh : Option ET) : TC → Option TC
 | .ptr k off => (idxOf π k).map fun j => .ptr j off
 | .eptr k sz i o => (idxOf π k).map fun j => .eptr j sz i o
 | .osl t k off len => if own then (idxOf π k).map fun j => .osl t j off len else match idxOf π k with | none => (contentV rd t k off len).map (.isl t) | some _ => none
 | .fn f cs => (mapO (viewCap π) cs).map (.fn f)
 | .val (.slice none 0 0) => match sh with | some t => some (.isl t []) | none => some (.val (.slice none 0 0))
 | c => some c
def viewCs (rd : Nat → Option Obj) (own : Bool) (π : List Nat) : List (Option ET) → List TC → Option (List TC)
 | _, [] => some []
 | [], c :: cs => match viewC rd own π none c, viewCs rd own π [] cs with
   | some d, some ds => some (d :: ds)
   | _, _ => none
 | s :: ss, c :: cs => match viewC rd own π s c, viewCs rd own π ss cs with
   | some d, some ds => some (d :: ds)
   | _, _ => none
def viewV (rd : Nat → Option Obj) (own : Bool) (π : List Nat) (sh : List (Option ET)) : TV → Option TV
 | .one c => (viewC rd own π (sh.headD none) c).map .one
 | .agg cs => (viewCs rd own π sh cs).map .agg
 | _ => none
def viewVs (rd : Nat → Option Obj) (own : Bool) (π : List Nat) : List (List (Option ET)) → List TV → Option (List TV)
 | _, [] => some []
 | [], v :: vs => match viewV rd own π [] v, viewVs rd own π [] vs with
   | some d, some ds => some (d :: ds)
   | _, _ => none
 | s :: ss, v :: vs => match viewV rd own π s v, viewVs rd own π ss vs with
   | some d, some ds => some (d :: ds)
   | _, _ => none
def viewO (rd : Nat → Option Obj) (π : List Nat) (k : Nat) : Option Obj :=
 match rd k with
 | some (.cells cs) => (viewCs rd true π [] cs).map .cells
 | some (.arr t xs) => some (.arr t xs)
 | none => none
def ren (π : List Nat) (n j : Nat) : Nat := if j < π.length then π.getD j 0 else n + (j - π.length)
def renC (π : List Nat) (n : Nat) : TC → TC
 | .ptr k off => .ptr (ren π n k) off
 | .eptr k sz i j => .eptr (ren π n k) sz i j
 | .osl t k off len => .osl t (ren π n k) off len
 | .fn f cs => .fn f (cs.map fun q => (ren π n q.1, q.2))
 | c => c
def renV (π : List Nat) (n : Nat) : TV → TV
 | .one c => .one (renC π n c)
 | .agg cs => .agg (cs.map (renC π n))
 | .tup vs => .tup (renVs π n vs)
 | .gd c v => .gd c (renV π n v)
where renVs (π : List Nat) (n : Nat) : List TV → List TV
 | [] => []
 | v :: vs => renV π n v :: renVs π n vs
def renO (π : List Nat) (n : Nat) : Obj → Obj
 | .cells cs => .cells (cs.map (renC π n))
 | .arr t xs => .arr t xs
def freeC : TC → Bool
 | .isl _ _ => false
 | .ip _ _ => false
 | _ => true
def freeV : TV → Bool
 | .one c => freeC c
 | .agg cs => cs.all freeC
 | .tup vs => freeVs vs
 | .gd _ _ => false
where freeVs : List TV → Bool
 | [] => true
 | v :: vs => freeV v && freeVs vs
def freeO : Obj → Bool
 | .cells cs => cs.all freeC
 | .arr _ _ => true
def callWith (rd : Nat → Option Obj) (n : Nat) (ct : Ct) (args : List TV) : St :=
 let π := handed rd ct.own args
 match viewVs rd ct.own π ct.sh args, mapO (viewO rd π) π with
 | some as, some os => match ct.spec as os with
   | ⟨p, v, upd, news⟩ => ⟨p ∧ (ct.own || freeV v) = true ∧ (upd.all fun q => (ct.own || (q.2.map freeO).getD true) && decide (q.1 < π.length)) = true ∧ (ct.own || news.all freeO) = true,
     renV π n v, upd.map fun q => (ren π n q.1, q.2.map (renO π n)), news.map (renO π n)⟩
 | _, _ => no
def capArgs (cs : List (Nat × Nat)) : List TV := cs.map fun q => .one (.ptr q.1 q.2)
def callv (Γ : FuncId → Option Ct) (rd : Nat → Option Obj) (n : Nat) (f : TV) (args : List TV) : St :=
 match f with
 | .one (.fn g cs) => match Γ g with
   | some ct => callWith rd n ct (args ++ capArgs cs)
   | none => no
 | _ => no
structure Env where
 ti : TypeId → TI
 Γ : FuncId → Option Ct
 sk : List Nat
def look : List (Nat × TV) → Nat → TV
 | [], _ => .one .any
 | (j, v) :: r, i => if j = i then v else look r i
def strip : TV → TV
 | .gd _ v => v
 | v => v
def constV : Value → TV
 | .agg cs => .agg (cs.toList.map .val)
 | v => .one (.val v)
def opd (sl : List (Nat × TV)) : Operand → TV
 | .tmp t => strip (look sl t)
 | .const v => constV v
 | .func f => .one (.fn f [])
 | .global _ => .one .any
def under (g : Bool) (sl : List (Nat × TV)) : Operand → Prop
 | .tmp t => match look sl t with
   | .gd c _ => g = true → c = true
   | _ => True
 | _ => True
def underAll (g : Bool) (sl : List (Nat × TV)) : List Operand → Prop
 | [] => True
 | x :: r => under g sl x ∧ underAll g sl r
def minv : List TV → St
 | [.one (.val (.int k a)), .one (.val (.int k' b))] => ifp (k = k') (.one (.val (.int k (if b < a then b else a))))
 | _ => no
def eqv (ti : TypeId → TI) (neg : Bool) (t : TypeId) (x y : TV) : St :=
 match (ti t).k, x, y with
 | .iface, .one .ifc, .one (.val .nilIface) => is (vb neg)
 | .sl _, .one (.isl _ xs), .one (.val (.slice none 0 0)) => is (.one (if neg then .nb True (xs = []) else .nb (xs = []) True))
 | .sl _, .one (.osl _ _ _ len), .one (.val (.slice none 0 0)) => is (.one (if neg then .nb True (len = 0) else .nb (len = 0) True))
 | .st _, .agg xs, .agg ys => (match (ti t).eks, plain xs, plain ys with
   | some ks, some us, some vs => ifp (kindsOk ks us = true ∧ kindsOk ks vs = true) (vb (if neg then !(valsEq us vs) else valsEq us vs))
   | _, _, _ => no)
 | _, _, _ => no
def eqop (ti : TypeId → TI) (op : BinOp) (t : TypeId) (x y : TV) : St :=
 match op with
 | .eql => eqv ti false t x y
 | .neq => eqv ti true t x y
 | _ => no
def binOpv (ti : TypeId → TI) (op : BinOp) (t : TypeId) (x y : TV) : St :=
 match x, y with
 | .one (.val (.bool p)), .one (.val (.bool q)) => (match (ti t).k, op with | .bool, .eql => is (vb (p == q)) | .bool, .neq => is (vb (!(p == q))) | _, _ => no)
 | .one (.val (.int k a)), .one (.val (.int k' b)) => binv op (.int k a) (.int k' b)
 | .one (.val (.string a)), .one (.val (.string b)) => binv op (.string a) (.string b)
 | x, y => eqop ti op t x y
def binOpw (ti : TypeId → TI) (op : BinOp) (t : TypeId) (o2 : Operand) (x y : TV) : St :=
 match x, y, o2 with
 | .one (.val .nilIface), .one (.val .nilIface), .const _ => (match (ti t).k, op with | .iface, .eql => is (vb true) | .iface, .neq => is (vb false) | _, _ => no)
 | x, y, _ => binOpv ti op t x y
def builtinv (E : Env) (rd : Nat → Option Obj) (n : Nat) (b : Builtin) (ts : List TypeId) (args : List TV) : St :=
 match b, ts, args with
 | .len, [t], [x] => lenv E.ti t x
 | .append, [s, t], [x, y] => appendv E.ti rd n s t x y
 | .min, _, xs => minv xs
 | _, _, _ => no
def opv (E : Env) (rd : Nat → Option Obj) (n : Nat) (sl : List (Nat × TV)) : Op → St
 | .move x => is (opd sl x)
 | .assign x => is (opd sl x)
 | .pick c0 a b => match opd sl c0, opd sl a, opd sl b with
   | .one (.val (.bool c)), .one (.val (.bool x)), .one (.val (.bool y)) => ifp (under true sl c0 ∧ under c sl a ∧ under (!c) sl b) (vb (if c then x else y))
   | .one (.val (.bool c)), x, y => ifp (under true sl c0 ∧ under c sl a ∧ under (!c) sl b) (if c then x else y)
   | _, _, _ => no
 | .alloc t => boxv E.ti n t (zeroOf E.ti t)
 | .box t x => boxv E.ti n t (opd sl x)
 | .build t ps => buildv E.ti t (ps.toList.map fun q => (q.1, opd sl q.2))
 | .buildSlice t len ps => litv E.ti n t len (ps.toList.map fun q => (q.1, opd sl q.2))
 | .load t a => loadv E.ti rd t (opd sl a)
 | .store t a x => storev E.ti rd t (opd sl a) (opd sl x)
 | .nilCheck x => match opd sl x with
   | .one (.ptr k o) => is (.one (.ptr k o))
   | .one (.eptr k sz i j) => is (.one (.eptr k sz i j))
   | .one (.ip cs o) => is (.one (.ip cs o))
   | .one (.fn f cs) => is (.one (.fn f cs))
   | _ => no
 | .binOp op t x y _ => binOpw E.ti op t y (opd sl x) (opd sl y)
 | .unOp op _ x => unv op (opd sl x)
 | .convert s d x => convv E.ti rd n s d (opd sl x)
 | .makeFunc (.func f) first cs => match first.toList, caps (cs.toList.map (opd sl)) with
   | [], some qs => is (.one (.fn f qs))
   | _, _ => no
 | .makeSlice t l c => makev E.ti n t (opd sl l) (opd sl c)
 | .slice t x lo hi none => slicev E.ti rd t (opd sl x) (lo.map (opd sl)) (hi.map (opd sl))
 | .fieldAddr s x f => fieldv E.ti s f (opd sl x)
 | .field s x f => fieldOf E.ti s f (opd sl x)
 | .indexAddr t x i => indexv E.ti rd t (opd sl x) (opd sl i)
 | .index t x i => indexOf E.ti t (opd sl x) (opd sl i)
 | .extract t i => match opd sl t with
   | .tup vs => match vs[i]? with
     | some v => is v
     | none => no
   | _ => no
 | .call c => match c.callee with
   | .builtin b => builtinv E rd n b c.argTypes.toList (c.args.toList.map (opd sl))
   | .value f => callv E.Γ rd n (opd sl f) (c.args.toList.map (opd sl))
   | _ => no
 | _ => no
def footV (sl : List (Nat × TV)) (xs : List Operand) : List Nat := xs.flatMap fun x => refsV true (opd sl x)
def footCall (Γ : FuncId → Option Ct) (rd : Nat → Option Obj) (f : TV) (args : List TV) : List Nat :=
 match f with
 | .one (.fn g cs) => match Γ g with
   | some ct => handed rd ct.own (args ++ capArgs cs)
   | none => []
 | _ => []
def reads : Op → Bool
 | .load .. => true
 | .store .. => true
 | .convert .. => true
 | .slice .. => true
 | .indexAddr .. => true
 | .call .. => true
 | _ => false
def foot (E : Env) (rd : Nat → Option Obj) (sl : List (Nat × TV)) (op : Op) : List Nat :=
 (if reads op then footV sl op.operands.toList else []) ++ match op with
  | .call c => match c.callee with
    | .value f => footCall E.Γ rd (opd sl f) (c.args.toList.map (opd sl))
    | _ => []
  | _ => []
structure Sg where
 sl : List (Nat × TV)
 tab : List (Option Obj)
 tch : List Nat
def rdT (tab : List (Option Obj)) (k : Nat) : Option Obj := (tab[k]?).getD none
def setT (tab : List (Option Obj)) : List (Nat × Option Obj) → List (Option Obj)
 | [] => tab
 | (k, o) :: r => setT (if (rdT tab k).isSome then tab.set k o else tab) r
def putS (sl : List (Nat × TV)) (dst : Option Tmp) (v : TV) : List (Nat × TV) :=
 match dst with
 | some d => (d, v) :: sl
 | none => sl
def touch (m : Nat) (tch : List Nat) : List (Nat × Option Obj) → List Nat
 | [] => tch
 | (k, _) :: r => touch m (if k < m then k :: tch else tch) r
def gcond (ops : List Oper) (sl : List (Nat × TV)) (o : Oper) : Option Bool :=
 match o.guard with
 | none => some true
 | some (j, want) => match (ops[j]?).bind (·.dst) with
   | none => none
   | some d => match look sl d with
     | .one (.val (.bool b)) => some (if want then b else !b)
     | .gd c (.one (.val (.bool b))) => some (c && if want then b else !b)
     | _ => none
def isPick : Op → Bool
 | .pick .. => true
 | _ => false
def operandsOf (o : Op) : List Operand := if isPick o then [] else o.operands.toList
def dstOk (n : Nat) : Option Tmp → Prop
 | some d => d < n
 | none => True
def gl {α : Type} (g : Bool) (l : List α) : List α := if g then l else []
def passed (sk : List Nat) : Option Tmp → Bool
 | some d => sk.contains d
 | none => false
def stepv (E : Env) (n m : Nat) (ops : List Oper) (o : Oper) (σ : Sg) (K : Sg → List Nat → Prop) : Prop :=
 match o.guard with
 | none => match opv E (rdT σ.tab) σ.tab.length σ.sl o.op with
   | ⟨p, v, upd, news⟩ => dstOk n o.dst ∧ underAll true σ.sl (operandsOf o.op) ∧ p ∧ K ⟨putS σ.sl o.dst v, setT σ.tab upd ++ news.map some, touch m σ.tch upd⟩ (upd.map (·.1) ++ (List.range news.length).map (σ.tab.length + ·))
 | some _ => if passed E.sk o.dst then gcond ops σ.sl o = some false ∧ dstOk n o.dst ∧ K ⟨putS σ.sl o.dst (.gd false (.one .any)), σ.tab, σ.tch⟩ [] else match gcond ops σ.sl o with
   | none => False
   | some g => match opv E (rdT σ.tab) σ.tab.length σ.sl o.op with
     | ⟨p, v, upd, news⟩ => dstOk n o.dst ∧ (g = true → underAll g σ.sl (operandsOf o.op) ∧ p) ∧ K ⟨putS σ.sl o.dst (.gd g v), setT σ.tab (gl g upd) ++ (gl g news).map some, touch m σ.tch (gl g upd)⟩ ((gl g upd).map (·.1) ++ (List.range (gl g news).length).map (σ.tab.length + ·))
def goOps (E : Env) (n m : Nat) (ops : List Oper) : List Oper → Sg → (Sg → Prop) → Prop
 | [], σ, K => K σ
 | o :: r, σ, K => stepv E n m ops o σ fun σ' _ => goOps E n m ops r σ' K
def depsOf (o : Oper) : List Nat := o.after.toList.filterMap fun e => if Region.binds .any e then some e.on else none
def uni (ds : List Nat) (acc : List (List Nat)) : List Nat := (ds ++ ds.flatMap fun d => acc.getD d []).foldl addNew []
def ancT : List Oper → List (List Nat) → List (List Nat)
 | [], acc => acc
 | o :: r, acc => ancT r (acc ++ [uni (depsOf o) acc])
def tmpsOf : List Operand → List Nat
 | [] => []
 | .tmp t :: r => t :: tmpsOf r
 | _ :: r => tmpsOf r
def namesOf (ops : List Oper) (o : Oper) : List Nat :=
 o.dst.toList ++ tmpsOf o.op.operands.toList ++ (match o.guard with | some (j, _) => ((ops[j]?).bind (·.dst)).toList | none => [])
def apartL (xs ys : List Nat) : Bool := xs.all fun x => !ys.contains x
def pairOk (ops : List Oper) (oi oj : Oper) (li lj : List Nat × List Nat) : Bool :=
 apartL li.2 lj.1 && apartL li.2 lj.2 && apartL lj.2 li.1 && apartL oi.dst.toList (namesOf ops oj) && apartL oj.dst.toList (namesOf ops oi)
def drawOk (ops : List Oper) (log : List (List Nat × List Nat)) : Bool :=
 let A := ancT ops []
 (List.range ops.length).all fun j =>
  ((ops[j]?).map fun oj => (depsOf oj).all (· < j) &&
    (List.range j).all fun i => (A.getD j []).contains i || ((ops[i]?).map fun oi => pairOk ops oi oj (log.getD i ([], [])) (log.getD j ([], []))).getD false).getD false
def goOpsD (E : Env) (n m : Nat) (all : List Oper) : List Oper → Sg → List (List Nat × List Nat) → (Sg → Prop) → Prop
 | [], σ, log, K => drawOk all log.reverse = true ∧ K σ
 | o :: r, σ, log, K => stepv E n m all o σ fun σ' ws => goOpsD E n m all r σ' ((foot E (rdT σ.tab) σ.sl o.op, ws) :: log) K
end Go.Proofs.YtfmjgoeclilcnaaGreatDoor
namespace Go.Proofs.YtfmjgoeclilcnaaGreatDoor
open Go.RowKit
structure Phi where
 f : Nat → Option (Nat × Nat)
 fr : Nat → Prop
instance : CoeFun Phi fun _ => Nat → Option (Nat × Nat) := ⟨Phi.f⟩
abbrev Tab := Nat → Option Obj
def Own (φ : Phi) (T : Tab) (b : Nat) : Prop := ∃ k base, T k ≠ none ∧ φ k = some (b, base)
def Imm (φ : Phi) (T : Tab) (w : World) (b : Nat) : Prop := b < w.heap.size ∧ ¬ Own φ T b ∧ ¬ φ.fr b
def CellsAt (w : World) (b o : Nat) (cs : List Value) : Prop := ∀ i v, cs[i]? = some v → w.cell? ⟨b, o + i, none⟩ = some v
def CapR (φ : Phi) : Nat × Nat → Value → Prop
 | (k, off), v => ∃ b base, φ k = some (b, base) ∧ v = .pointer (some ⟨b, base + off, none⟩)
def All2 {α β : Type} (R : α → β → Prop) : List α → List β → Prop
 | [], [] => True
 | a :: as, b :: bs => R a b ∧ All2 R as bs
 | _, _ => False
def sizeAt (w : World) (b : Nat) : Nat := match w.heap[b]? with
 | some (.cells c _ _) => c.size
 | _ => 0
def CR (φ : Phi) (T : Tab) (w : World) : TC → Value → Prop
 | .val u, v => v = u
 | .ptr k off, v => CapR φ (k, off) v
 | .eptr k sz i j, v => CapR φ (k, i * sz + j) v
 | .osl t k off len, v => ∃ a cap, v = .slice a len cap ∧ len ≤ cap ∧ (a = none → cap = 0) ∧ (∀ ad, a = some ad → ad.spot = none) ∧
   (cap ≠ 0 → ∃ b base, φ k = some (b, base) ∧ a = some ⟨b, base + off * t.sz, none⟩ ∧ base + (off + cap) * t.sz ≤ sizeAt w b)
 | .isl t xs, v => ∃ a cap, v = .slice a xs.length cap ∧ xs.length ≤ cap ∧ (a = none → cap = 0) ∧ (∀ ad, a = some ad → ad.spot = none) ∧
   (xs ≠ [] → ∃ b o, a = some ⟨b, o, none⟩ ∧ Imm φ T w b ∧ CellsAt w b o (xs.flatMap t.cells))
 | .ip cs off, v => ∃ b o, v = .pointer (some ⟨b, o + off, none⟩) ∧ Imm φ T w b ∧ CellsAt w b o cs
 | .fn f caps, v => ∃ vs, v = .func (.func f) #[] vs ∧ All2 (CapR φ) caps vs.toList
 | .ifc, v => ∃ t u, v = .iface t u
 | .nb p q, v => ∃ b, v = .bool b ∧ (b = true → p) ∧ (b = false → q)
 | .any, _ => True
mutual
def VR (φ : Phi) (T : Tab) (w : World) : TV → Value → Prop
 | .one c, v => CR φ T w c v
 | .agg cs, v => ∃ vs, v = .agg vs ∧ All2 (CR φ T w) cs vs.toList
 | .tup l, v => ∃ vs, v = .tuple vs ∧ VRs φ T w l vs.toList
 | .gd c u, v => (c = true → VR φ T w u v) ∧ (c = false → v = undef)
def VRs (φ : Phi) (T : Tab) (w : World) : List TV → List Value → Prop
 | [], [] => True
 | a :: as, b :: bs => VR φ T w a b ∧ VRs φ T w as bs
 | _, _ => False
end
def Cells (w : World) (b : Nat) (c : Array Value) : Prop := ∃ e fr, w.heap[b]? = some (.cells c e fr) ∧ ∀ j, j < c.size → ¬ (fr.1 ≤ j ∧ j < fr.2)
def ObjR (φ : Phi) (T : Tab) (w : World) (k : Nat) : Obj → Prop
 | .cells cs => ∃ b base c, φ k = some (b, base) ∧ Cells w b c ∧ ∀ i tc, cs[i]? = some tc → ∃ v, c[base + i]? = some v ∧ CR φ T w tc v
 | .arr t xs => (φ k = none ∧ xs = []) ∨ ∃ b base c, φ k = some (b, base) ∧ Cells w b c ∧ ∀ i v, (xs.flatMap t.cells)[i]? = some v → c[base + i]? = some v
def gloL : List (Nat × (Array Value → Prop)) := [(5, fun c => c = (Lib.pow10Tab.map fun z => Value.int .u64 z).toArray), (0, fun c => ∃ t p, c = #[.iface t p]), (1, fun c => ∃ t p, c = #[.iface t p]), (2, fun c => ∃ m, c[0]? = some (.int .i64 m))]
def GloOk (φ : Phi) (T : Tab) (w : World) : Prop := ∀ q, q ∈ gloL → ¬ Own φ T q.1 ∧ ∃ c e f, w.heap[q.1]? = some (.cells c e f) ∧ q.2 c
def GloOk0 (w : World) : Prop := ∀ q, q ∈ gloL → ∃ c e f, w.heap[q.1]? = some (.cells c e f) ∧ q.2 c
structure Rel (φ : Phi) (T : Tab) (w : World) : Prop where
 obj : ∀ k o, T k = some o → ObjR φ T w k o
 inj : ∀ k k' b base base', T k ≠ none → T k' ≠ none → φ k = some (b, base) → φ k' = some (b, base') → k = k'
 frd : ∀ b, φ.fr b → b < w.heap.size ∧ ¬ Own φ T b
 glo : GloOk φ T w
structure Ge (φ : Phi) (T : Tab) (w : World) (φ' : Phi) (T' : Tab) (w' : World) : Prop where
 os : w'.os = w.os
 tape : w'.tape = w.tape
 output : w'.output = w.output
 size : w.heap.size ≤ w'.heap.size
 phi : ∀ k p, φ k = some p → φ' k = some p
 block : ∀ b, b < w.heap.size → ¬ Own φ T b → w'.heap[b]? = w.heap[b]?
 own : ∀ b, b < w.heap.size → Own φ' T' b → Own φ T b
 sizes : ∀ b, b < w.heap.size → sizeAt w' b = sizeAt w b
 fr : ∀ b, φ'.fr b ↔ φ.fr b
theorem Ge.refl (φ : Phi) (T : Tab) (w : World) : Ge φ T w φ T w :=
 ⟨rfl, rfl, rfl, Nat.le_refl _, fun _ _ h => h, fun _ _ _ => rfl, fun _ _ h => h, fun _ _ => rfl, fun _ => Iff.rfl⟩
theorem Ge.trans {φ φ' φ'' : Phi} {T T' T'' : Tab} {w w' w'' : World} (h : Ge φ T w φ' T' w') (k : Ge φ' T' w' φ'' T'' w'') : Ge φ T w φ'' T'' w'' where
 os := k.os.trans h.os
 tape := k.tape.trans h.tape
 output := k.output.trans h.output
 size := Nat.le_trans h.size k.size
 phi := fun i p hp => k.phi i p (h.phi i p hp)
 block := fun b hb hn => (k.block b (Nat.lt_of_lt_of_le hb h.size) (fun ho => hn (h.own b hb ho))).trans (h.block b hb hn)
 own := fun b hb ho => h.own b hb (k.own b (Nat.lt_of_lt_of_le hb h.size) ho)
 sizes := fun b hb => (k.sizes b (Nat.lt_of_lt_of_le hb h.size)).trans (h.sizes b hb)
 fr := fun b => (k.fr b).trans (h.fr b)
section
variable {φ φ' : Phi} {T T' : Tab} {w w' : World}
theorem All2.mono {α β : Type} {R S : α → β → Prop} (h : ∀ a b, R a b → S a b) : ∀ {as bs}, All2 R as bs → All2 S as bs
 | [], [], _ => trivial
 | _ :: _, _ :: _, ⟨x, y⟩ => ⟨h _ _ x, y.mono h⟩
 | [], _ :: _, x => x.elim
 | _ :: _, [], x => x.elim
theorem All2.length {α β : Type} {R : α → β → Prop} : ∀ {as : List α} {bs : List β}, All2 R as bs → as.length = bs.length
 | [], [], _ => rfl
 | _ :: _, _ :: _, ⟨_, y⟩ => by simp [y.length]
 | [], _ :: _, x => x.elim
 | _ :: _, [], x => x.elim
theorem All2.get {α β : Type} {R : α → β → Prop} : ∀ {as : List α} {bs : List β}, All2 R as bs → ∀ (i : Nat) (a : α), as[i]? = some a → ∃ b, bs[i]? = some b ∧ R a b
 | [], [], _, i, a, h => by simp at h
 | a :: as, b :: bs, ⟨x, _⟩, 0, c, h => by simp at h; subst h; exact ⟨b, rfl, x⟩
 | _ :: _, _ :: _, ⟨_, y⟩, i + 1, c, h => by simpa using y.get i c (by simpa using h)
 | [], _ :: _, x, _, _, _ => x.elim
 | _ :: _, [], x, _, _, _ => x.elim
theorem All2.of_get {α β : Type} {R : α → β → Prop} : ∀ {as : List α} {bs : List β}, as.length = bs.length → (∀ (i : Nat) a b, as[i]? = some a → bs[i]? = some b → R a b) → All2 R as bs
 | [], [], _, _ => trivial
 | a :: as, b :: bs, hl, h => ⟨h 0 a b rfl rfl, All2.of_get (by simpa using hl) fun i a b ha hb => h (i + 1) a b (by simpa using ha) (by simpa using hb)⟩
 | [], _ :: _, hl, _ => by simp at hl
 | _ :: _, [], hl, _ => by simp at hl
theorem Imm.mono (g : Ge φ T w φ' T' w') {b : Nat} (h : Imm φ T w b) : Imm φ' T' w' b :=
 ⟨Nat.lt_of_lt_of_le h.1 g.size, fun ho => h.2.1 (g.own b h.1 ho), fun hf => h.2.2 ((g.fr b).1 hf)⟩
theorem CellsAt.mono (g : Ge φ T w φ' T' w') {b o : Nat} {cs : List Value} (hi : Imm φ T w b) (h : CellsAt w b o cs) : CellsAt w' b o cs := by
 intro i v hv
 rw [World.cell?_of_block (w := w) (g.block b hi.1 hi.2.1)]
 exact h i v hv
theorem CapR.mono (h : ∀ k p, φ k = some p → φ' k = some p) {q : Nat × Nat} {v : Value} (x : CapR φ q v) : CapR φ' q v := by
 obtain ⟨k, off⟩ := q
 obtain ⟨b, base, hk, hv⟩ := x
 exact ⟨b, base, h _ _ hk, hv⟩
theorem sizeAt_lt {b n : Nat} (h : 0 < n) (hb : n ≤ sizeAt w b) : b < w.heap.size := by
 unfold sizeAt at hb
 rcases Nat.lt_or_ge b w.heap.size with hl | hl
 ·exact hl
 ·rw [Array.getElem?_eq_none hl] at hb; simp at hb; omega
theorem ET.sz_pos (t : ET) : 0 < t.sz := by cases t <;> decide
theorem ET.cells_len (t : ET) (x : t.α) : (t.cells x).length = t.sz := by
 cases t <;> simp [ET.cells, ET.sz, Ptr.cells]
theorem cells_one (t : ET) (x : t.α) (v : Value) (h : v ∈ t.cells x) : v.oneCell' = true := by
 cases t <;> simp [ET.cells, Ptr.cells] at h <;> (repeat' (refine Or.elim h ?_ ?_ <;> clear h <;> intro h)) <;> (subst h; rfl)
theorem flat_get (t : ET) : ∀ (xs : List t.α) (i q : Nat) (hi : i < xs.length), q < t.sz → (xs.flatMap t.cells)[i * t.sz + q]? = (t.cells xs[i])[q]?
 | [], i, q, hi, _ => by simp at hi
 | x :: xs, 0, q, _, hq => by
   have := ET.cells_len t x
   simp only [List.flatMap_cons, Nat.zero_mul, Nat.zero_add, List.getElem_cons_zero]
   rw [List.getElem?_append_left (by omega)]
 | x :: xs, i + 1, q, hi, hq => by
   have hl := ET.cells_len t x
   simp only [List.flatMap_cons, List.getElem_cons_succ]
   rw [List.getElem?_append_right (by rw [hl, Nat.succ_mul]; omega), hl, show (i + 1) * t.sz + q - t.sz = i * t.sz + q by rw [Nat.succ_mul]; omega]
   exact flat_get t xs i q (by simpa using hi) hq
theorem flat_len (t : ET) : ∀ (xs : List t.α), (xs.flatMap t.cells).length = xs.length * t.sz
 | [] => by simp
 | x :: xs => by simp only [List.flatMap_cons, List.length_append, flat_len t xs, ET.cells_len, List.length_cons, Nat.add_mul, Nat.one_mul, Nat.add_comm]
theorem CR.mono (g : Ge φ T w φ' T' w') {c : TC} {v : Value} (h : CR φ T w c v) : CR φ' T' w' c v := by
 cases c with
 | val u => exact h
 | ptr k off => exact CapR.mono (q := (k, off)) g.phi h
 | eptr k sz i j => exact CapR.mono (q := (k, i * sz + j)) g.phi h
 | osl t k off len =>
   obtain ⟨a, cap, h1, h2, h3, h4, h5⟩ := h
   refine ⟨a, cap, h1, h2, h3, h4, fun hc => ?_⟩
   obtain ⟨b, base, hk, ha, hs⟩ := h5 hc
   refine ⟨b, base, g.phi _ _ hk, ha, ?_⟩
   have hp : 0 < base + (off + cap) * t.sz := by have := Nat.mul_pos (show 0 < off + cap by omega) t.sz_pos; omega
   rw [g.sizes b (sizeAt_lt hp hs)]; exact hs
 | isl t xs =>
   obtain ⟨a, cap, h1, h2, h3, h4, h5⟩ := h
   refine ⟨a, cap, h1, h2, h3, h4, fun hc => ?_⟩
   obtain ⟨b, o, ha, hi, hcs⟩ := h5 hc
   exact ⟨b, o, ha, hi.mono g, hcs.mono g hi⟩
 | ip cs off =>
   obtain ⟨b, o, hv, hi, hcs⟩ := h
   exact ⟨b, o, hv, hi.mono g, hcs.mono g hi⟩
 | fn f caps =>
   obtain ⟨vs, hv, ha⟩ := h
   exact ⟨vs, hv, ha.mono fun q v => CapR.mono g.phi⟩
 | ifc => exact h
 | nb p q => exact h
 | any => trivial
mutual
theorem VR.mono (g : Ge φ T w φ' T' w') : ∀ {x : TV} {v : Value}, VR φ T w x v → VR φ' T' w' x v
 | .one c, v, h => by unfold VR at *; exact CR.mono g h
 | .agg cs, v, h => by
   unfold VR at *
   obtain ⟨vs, hv, ha⟩ := h
   exact ⟨vs, hv, ha.mono fun _ _ => CR.mono g⟩
 | .tup l, v, h => by
   unfold VR at *
   obtain ⟨vs, hv, ha⟩ := h
   exact ⟨vs, hv, VRs.mono g ha⟩
 | .gd c u, v, h => by
   unfold VR at *
   exact ⟨fun hc => VR.mono g (h.1 hc), h.2⟩
theorem VRs.mono (g : Ge φ T w φ' T' w') : ∀ {x : List TV} {v : List Value}, VRs φ T w x v → VRs φ' T' w' x v
 | [], [], _ => by unfold VRs; trivial
 | _ :: _, _ :: _, h => by unfold VRs at *; exact ⟨VR.mono g h.1, VRs.mono g h.2⟩
 | [], _ :: _, h => by unfold VRs at h; exact h.elim
 | _ :: _, [], h => by unfold VRs at h; exact h.elim
end
end
end Go.Proofs.YtfmjgoeclilcnaaGreatDoor
namespace Go.Proofs.YtfmjgoeclilcnaaGreatDoor
open Go.RowKit
def kindOk (u : Option TypeDesc) : TK → Prop
 | .int k => u = some (.int k)
 | .str => u = some .string
 | .bool => u = some .bool
 | .iface => ∃ ms, u = some (.interface ms)
 | .sl e => u = some (.slice e)
 | .arr n e => u = some (.array n e)
 | .st fs => ∃ fields, u = some (.struct fields) ∧ fields.toList.map (fun f => (f.offset, f.type)) = fs
 | .ptr e => u = some (.pointer e)
 | .other => True
def aggDesc : TypeDesc → Bool
 | .struct _ => true
 | .array _ _ => true
 | _ => false
def EqOk (P : Program) (t : TypeId) (ks : List TK) : Prop :=
 P.eqGuardType P.depth t = false ∧ ∀ (w : World) (xs ys : List Value), kindsOk ks xs = true → kindsOk ks ys = true → (Op.equalIn 10000 t (.agg xs.toArray) (.agg ys.toArray)).run P w = .ok (valsEq xs ys) w
structure TIok (P : Program) (t : TypeId) (x : TI) : Prop where
 info : ∃ i, P.info? t = some i ∧ i.size = x.sz ∧ i.bytes = x.bytes ∧ ∃ z, i.zero = some z ∧ z.cells.toList = x.zero ∧ (x.agg = true → ∃ cs, z = .agg cs) ∧ (x.agg = false → x.zero = [z])
 zlen : x.zero.length = x.sz
 kind : kindOk (P.underlying t) x.k
 agg : ∃ d, P.underlying t = some d ∧ aggDesc d = x.agg
 cmp : ∀ ks, x.eks = some ks → EqOk P t ks
section
variable {P : Program} {t : TypeId} {x : TI} (h : TIok P t x) (w : World)
include h
theorem TIok.run_sizeOf : (sizeOf t).run P w = .ok x.sz w := by
 obtain ⟨i, hi, hs, -⟩ := h.info
 simp [sizeOf, typeInfo, program, Sem.run, hi, hs]
theorem TIok.run_isAgg : (isAgg t).run P w = .ok x.agg w := by
 obtain ⟨d, hd, ha⟩ := h.agg
 cases d <;> simp [isAgg, underlying, program, Sem.run, hd, aggDesc] at ha ⊢ <;> exact ha
theorem TIok.run_info : ∃ i, (typeInfo t).run P w = .ok i w ∧ i.size = x.sz ∧ i.bytes = x.bytes := by
 obtain ⟨i, hi, hs, hb, -⟩ := h.info
 exact ⟨i, by simp [typeInfo, program, Sem.run, hi], hs, hb⟩
theorem TIok.run_zero : ∃ z, (zeroValue t).run P w = .ok z w ∧ z.cells.toList = x.zero ∧ (x.agg = true → ∃ cs, z = .agg cs) ∧ (x.agg = false → x.zero = [z]) := by
 obtain ⟨i, hi, hs, hb, z, hz, h1, h2, h3⟩ := h.info
 exact ⟨z, by simp [zeroValue, typeInfo, program, Sem.run, hi, hz], h1, h2, h3⟩
end
theorem run_under' {P : Program} {t : TypeId} {d : TypeDesc} (hd : P.underlying t = some d) (w : World) : (underlying t).run P w = .ok d w := by
 simp [underlying, program, Sem.run, hd]
theorem add_addr (b o n : Nat) : (⟨b, o, none⟩ : Addr).add n = ⟨b, o + n, none⟩ := by unfold Addr.add; split <;> simp_all
theorem VR.cells {φ : Phi} {T : Tab} {w : World} {x : TV} {v : Value} (h : VR φ T w x v) (hx : ∀ l, x ≠ .tup l) (hg : ∀ c u, x ≠ .gd c u) (hs : x.isAgg = true ∨ oneCell v = true) :
  All2 (CR φ T w) x.cells v.cells.toList := by
 cases x with
 | one c =>
   unfold VR at h
   simp only [TV.cells]
   rcases hs with hs | hs
   ·simp [TV.isAgg] at hs
   ·have : v.cells = #[v] := by cases v <;> first | rfl | simp [oneCell] at hs
    rw [this]; exact ⟨h, trivial⟩
 | agg cs => unfold VR at h; obtain ⟨vs, rfl, ha⟩ := h; simpa [TV.cells, Value.cells] using ha
 | tup l => exact absurd rfl (hx l)
 | gd c u => exact absurd rfl (hg c u)
theorem run_loadVar {P : Program} {t : TypeId} {x : TI} (ok : TIok P t x) {φ : Phi} {T : Tab} {w : World} {b o : Nat} {cs : List TC} (off : Nat) (hlen : off + x.sz ≤ cs.length) (hpos : 0 < x.sz)
  (hc : ∀ i c, cs[i]? = some c → ∃ v, w.cell? ⟨b, o + i, none⟩ = some v ∧ CR φ T w c v) :
  ∃ v, (loadVar t ⟨b, o + off, none⟩).run P w = .ok v w ∧ VR φ T w (asVal x.agg x.sz off cs) v := by
 cases ha : x.agg with
 | true =>
   let f : Nat → Value := fun j => (w.cell? ⟨b, o + off + j, none⟩).getD undef
   have hf : ∀ j, j < x.sz → w.cell? ((⟨b, o + off, none⟩ : Addr).add j) = some (f j) := by
    intro j hj
    obtain ⟨v, hv, -⟩ := hc (off + j) _ (List.getElem?_eq_getElem (by omega))
    rw [add_addr]; simp only [f, Nat.add_assoc, hv, Option.getD_some]
   refine ⟨.agg ((List.range x.sz).map f).toArray, ?_, ?_⟩
   ·simp only [loadVar, Sem.run_bind, ok.run_isAgg, ha, Result.andThen_ok, if_true, ok.run_sizeOf]
    rw [run_loadCells w _ _ f hf]
    rfl
   ·simp only [asVal, if_true, VR]
    refine ⟨_, rfl, ?_⟩
    refine All2.of_get (by simp [part]; omega) ?_
    intro i a v hi hv
    simp only [part, List.getElem?_take, List.getElem?_drop] at hi
    split at hi
    ·rename_i hlt
     obtain ⟨u, hu, hr⟩ := hc _ _ hi
     simp only [List.getElem?_map, List.getElem?_range hlt, Option.map_some, Option.some.injEq] at hv
     simp only [f, Nat.add_assoc, hu, Option.getD_some] at hv
     exact hv ▸ hr
    ·exact absurd hi (by simp)
 | false =>
   have hlt : off < cs.length := by omega
   obtain ⟨v, hv, hr⟩ := hc off _ (List.getElem?_eq_getElem hlt)
   refine ⟨v, ?_, ?_⟩
   ·simp only [loadVar, Sem.run_bind, ok.run_isAgg, ha, Result.andThen_ok, Bool.false_eq_true, if_false, run_load, hv]
   ·simp only [asVal, Bool.false_eq_true, if_false, VR]
    rw [List.getD_eq_getElem?_getD, List.getElem?_eq_getElem hlt]; exact hr
theorem cell_of_Cells {w : World} {b : Nat} {c : Array Value} (h : Cells w b c) (i : Nat) : w.cell? ⟨b, i, none⟩ = c[i]? := by
 obtain ⟨e, fr, hb, -⟩ := h
 simp [World.cell?, hb]
end Go.Proofs.YtfmjgoeclilcnaaGreatDoor
namespace Go.Proofs.YtfmjgoeclilcnaaGreatDoor
open Go.RowKit
def updT (T : Tab) : List (Nat × Option Obj) → Tab
 | [] => T
 | (k, o) :: r => updT (fun j => if j = k ∧ T k ≠ none then o else T j) r
def addT (T : Tab) (n : Nat) (news : List Obj) : Tab := fun k => if n ≤ k then (match news[k - n]? with | some o => some o | none => T k) else T k
def newT (T : Tab) (n : Nat) (s : St) : Tab := addT (updT T s.upd) n s.news
def Dom (φ φ' : Phi) (n m : Nat) : Prop := ∀ k, φ' k ≠ none → φ k ≠ none ∨ (n ≤ k ∧ k < n + m)
theorem addT_nil (T : Tab) (n : Nat) : addT T n [] = T := by
 funext k; simp [addT]
def Kept (φ : Phi) (T : Tab) (U : Nat → Prop) (w w' : World) : Prop := ∀ b, b < w.heap.size → (∀ k base, U k → T k ≠ none → φ k ≠ some (b, base)) → w'.heap[b]? = w.heap[b]?
def Ran (P : Program) (φ : Phi) (T : Tab) (w : World) (n : Nat) (s : St) (m : Sem Value) : Prop :=
 ∃ r w' φ', m.run P w = .ok r w' ∧ VR φ' (newT T n s) w' s.v r ∧ Rel φ' (newT T n s) w' ∧ Ge φ T w φ' (newT T n s) w' ∧ Dom φ φ' n s.news.length ∧ Kept φ T (fun k => ∃ o, (k, o) ∈ s.upd) w w'
theorem newT_pure (T : Tab) (n : Nat) (s : St) (h : s.upd = []) (h' : s.news = []) : newT T n s = T := by simp [newT, h, h', updT, addT_nil]
theorem Ran.pure {P : Program} {φ : Phi} {T : Tab} {w : World} {n : Nat} {s : St} {m : Sem Value} (hr : Rel φ T w) (h : s.upd = [] ∧ s.news = []) (hm : ∃ r, m.run P w = .ok r w ∧ VR φ T w s.v r) : Ran P φ T w n s m := by
 obtain ⟨r, h1, h2⟩ := hm
 refine ⟨r, w, φ, h1, ?_⟩
 rw [newT_pure T n s h.1 h.2]
 exact ⟨h2, hr, Ge.refl _ _ _, fun k hk => .inl hk, fun _ _ _ => rfl⟩
section
variable {P : Program} {ti : TypeId → TI} (hti : ∀ t, ((ti t).k ≠ .other ∨ 0 < (ti t).sz) → TIok P t (ti t))
variable {φ : Phi} {T : Tab} {w : World} {n : Nat} {rd : Nat → Option Obj} (hrel : Rel φ T w)
include hti hrel
theorem loadv_ran {t : TypeId} {x : TV} {v : Value} (hrd : ∀ k, k ∈ refsV true x → T k = rd k) (hx : VR φ T w x v) (hp : (loadv ti rd t x).pre) :
  Ran P φ T w n (loadv ti rd t x) (Instr.loadAt t v) := by
 unfold loadv at hp ⊢
 split at hp
 case h_1 k off =>
  have hk := hrd k (by simp [refsV, refsC])
  simp only [VR, CR, CapR] at hx
  obtain ⟨b, base, hφ, rfl⟩ := hx
  split at hp
  case h_1 cs hcs =>
   have ok := hti t (.inr hp.2)
   obtain ⟨b', base', c, hφ', hC, hcells⟩ := hrel.obj k _ (hk.trans hcs)
   rw [hφ] at hφ'; cases hφ'
   try simp only [hcs]
   refine Ran.pure hrel ⟨rfl, rfl⟩ ?_
   simp only [Instr.loadAt, Instr.sureAddr, Sem.run_bind, Sem.run_pure, Result.andThen_ok, ifp]
   exact run_loadVar ok off hp.1 hp.2 fun i tc h => by
    obtain ⟨u, hu, hr⟩ := hcells i tc h
    exact ⟨u, by rw [cell_of_Cells hC]; exact hu, hr⟩
  case h_2 => exact hp.elim
 case h_2 k sz i j =>
  have hk := hrd k (by simp [refsV, refsC])
  simp only [VR, CR, CapR] at hx
  obtain ⟨b, base, hφ, rfl⟩ := hx
  split at hp
  case h_1 t' xs hcs =>
   obtain ⟨hi, hsz, hj, hpos⟩ := hp
   have ok := hti t (.inr hpos)
   rcases hrel.obj k _ (hk.trans hcs) with ⟨-, hnil⟩ | ⟨b', base', c, hφ', hC, hcells⟩
   ·subst hnil; simp at hi
   rw [hφ] at hφ'; cases hφ'
   try simp only [hcs]
   refine Ran.pure hrel ⟨rfl, rfl⟩ ?_
   simp only [Instr.loadAt, Instr.sureAddr, Sem.run_bind, Sem.run_pure, Result.andThen_ok, ifp]
   subst hsz
   have hat : t'.at xs i = xs[i] := by simp [ET.at, List.getD, List.getElem?_eq_getElem hi]
   have hl := ET.cells_len t' (t'.at xs i)
   rw [show base + (i * t'.sz + j) = (base + i * t'.sz) + j by omega]
   refine run_loadVar (cs := (t'.cells (t'.at xs i)).map .val) ok j (by simp [hl]; omega) hpos fun q tc h => ?_
   simp only [List.getElem?_map, Option.map_eq_some_iff] at h
   obtain ⟨u, hu, rfl⟩ := h
   refine ⟨u, ?_, rfl⟩
   rw [cell_of_Cells hC, Nat.add_assoc]
   refine hcells _ _ ?_
   rw [flat_get t' xs i q hi (by have := (List.getElem?_eq_some_iff.1 hu).1; omega), ← hat]; exact hu
  case h_2 => exact hp.elim
 case h_3 cs off =>
  simp only [VR, CR] at hx
  obtain ⟨b, o, rfl, hi, hcs⟩ := hx
  have ok := hti t (.inr hp.2)
  refine Ran.pure hrel ⟨rfl, rfl⟩ ?_
  simp only [Instr.loadAt, Instr.sureAddr, Sem.run_bind, Sem.run_pure, Result.andThen_ok, ifp]
  refine run_loadVar (cs := cs.map .val) ok off (by simpa using hp.1) hp.2 fun q tc h => ?_
  simp only [List.getElem?_map, Option.map_eq_some_iff] at h
  obtain ⟨u, hu, rfl⟩ := h
  exact ⟨u, hcs q u hu, rfl⟩
 case h_4 => exact hp.elim
theorem fieldv_ran {s : TypeId} {f : Nat} {x : TV} {v : Value} (hx : VR φ T w x v) (hp : (fieldv ti s f x).pre) : Ran P φ T w n (fieldv ti s f x) (Instr.fieldAt s v f) := by
 unfold fieldv at hp ⊢
 split at hp
 ·exact hp.elim
 rename_i o ft hf
 unfold fieldAt at hf
 split at hf
 case h_2 => exact absurd hf (by simp)
 rename_i fs hk
 have ok := hti s (.inl (by rw [hk]; simp))
 have hkind := ok.kind
 rw [hk] at hkind
 obtain ⟨fields, hu, hfs⟩ := hkind
 have hfield : ∃ fl, fields[f]? = some fl ∧ fl.offset = o ∧ fl.type = ft := by
  rw [← hfs] at hf
  simp only [List.getElem?_map, Option.map_eq_some_iff] at hf
  obtain ⟨fl, h1, h2⟩ := hf
  cases h2
  exact ⟨fl, by simpa using h1, rfl, rfl⟩
 obtain ⟨fl, hfl, rfl, rfl⟩ := hfield
 have key : ∀ b o', 0 < (ti fl.type).sz → (Instr.fieldAt s (.pointer (some ⟨b, o', none⟩)) f).run P w = .ok (.pointer (some ⟨b, o' + fl.offset, none⟩)) w := by
  intro b o' hpos
  have okf := hti fl.type (.inr hpos)
  simp only [Instr.fieldAt, Sem.run_bind, run_under' hu, Result.andThen_ok, hfl, Instr.sureAddr, Sem.run_pure, fieldPlace, okf.run_sizeOf]
  rw [if_neg (by omega)]
  simp [add_addr]
 try simp only [hf]
 split at hp
 ·rename_i k off
  simp only [VR, CR, CapR] at hx
  obtain ⟨b, base, hφ, rfl⟩ := hx
  refine Ran.pure hrel ⟨rfl, rfl⟩ ⟨_, key _ _ hp, ?_⟩
  simp only [ifp, VR, CR, CapR]
  exact ⟨b, base, hφ, by simp [Nat.add_assoc]⟩
 ·rename_i k sz i j
  simp only [VR, CR, CapR] at hx
  obtain ⟨b, base, hφ, rfl⟩ := hx
  refine Ran.pure hrel ⟨rfl, rfl⟩ ⟨_, key _ _ hp, ?_⟩
  simp only [ifp, VR, CR, CapR]
  exact ⟨b, base, hφ, by simp [Nat.add_assoc]⟩
 ·rename_i cs off
  simp only [VR, CR] at hx
  obtain ⟨b, o, rfl, hi, hcs⟩ := hx
  refine Ran.pure hrel ⟨rfl, rfl⟩ ⟨_, key _ _ hp, ?_⟩
  simp only [ifp, VR, CR]
  exact ⟨b, o, by simp [Nat.add_assoc], hi, hcs⟩
 ·exact hp.elim
theorem asI_val {x : TV} {v : Value} {i : Int} (hx : VR φ T w x v) (h : asI x = some i) : ∃ k, v = .int k i := by
 unfold asI at h
 split at h
 ·cases h; simp only [VR, CR] at hx; exact ⟨_, hx⟩
 ·exact absurd h (by simp)
theorem indexv_ran {t : TypeId} {x ix : TV} {v u : Value} (hrd : ∀ k, k ∈ refsV true x → T k = rd k) (hx : VR φ T w x v) (hix : VR φ T w ix u) (hp : (indexv ti rd t x ix).pre) :
  Ran P φ T w n (indexv ti rd t x ix) (Instr.indexAt t v u) := by
 unfold indexv at hp ⊢
 split at hp
 ·exact hp.elim
 rename_i i hi
 try simp only [hi]
 obtain ⟨ik, rfl⟩ := asI_val hti hrel hix hi
 split at hp
 ·rename_i len e hk
  have ok := hti t (.inl (by rw [hk]; simp))
  have hu : P.underlying t = some (.array len e) := by have := ok.kind; rwa [hk] at this
  try simp only [hk]
  have key : ∀ b o, 0 ≤ i ∧ i < len → (Instr.indexAt t (.pointer (some ⟨b, o, none⟩)) (.int ik i)).run P w = Result.andThen ((sizeOf e).run P w) (fun s w' => .ok (.pointer (some ⟨b, o + i.toNat * s, none⟩)) w') := by
   intro b o hb
   simp only [Instr.indexAt, asIntOf, Sem.run_bind, Sem.run_pure, Result.andThen_ok, run_under' hu, Instr.sureAddr, if_pos hb]
   cases (sizeOf e).run P w <;> simp [add_addr]
  have hsz : ∀ q : Prop, 0 ≤ i ∧ i < len → True := fun _ _ => trivial
  split at hp
  ·rename_i k off
   simp only [VR, CR, CapR] at hx
   obtain ⟨b, base, hφ, rfl⟩ := hx
   have oke := hti e (.inr hp.2)
   refine Ran.pure hrel ⟨rfl, rfl⟩ ⟨_, (key _ _ hp.1).trans (by rw [oke.run_sizeOf]; rfl), ?_⟩
   simp only [ifp, VR, CR, CapR]
   exact ⟨b, base, hφ, by simp [Nat.add_assoc]⟩
  ·rename_i k sz i0 j
   simp only [VR, CR, CapR] at hx
   obtain ⟨b, base, hφ, rfl⟩ := hx
   have oke := hti e (.inr hp.2)
   refine Ran.pure hrel ⟨rfl, rfl⟩ ⟨_, (key _ _ hp.1).trans (by rw [oke.run_sizeOf]; rfl), ?_⟩
   simp only [ifp, VR, CR, CapR]
   exact ⟨b, base, hφ, by simp [Nat.add_assoc]⟩
  ·rename_i cs off
   simp only [VR, CR] at hx
   obtain ⟨b, o, rfl, him, hcs⟩ := hx
   have oke := hti e (.inr hp.2)
   refine Ran.pure hrel ⟨rfl, rfl⟩ ⟨_, (key _ _ hp.1).trans (by rw [oke.run_sizeOf]; rfl), ?_⟩
   simp only [ifp, VR, CR]
   exact ⟨b, o, by simp [Nat.add_assoc], him, hcs⟩
  ·exact hp.elim
 ·rename_i e hk
  have ok := hti t (.inl (by rw [hk]; simp))
  have hu : P.underlying t = some (.slice e) := by have := ok.kind; rwa [hk] at this
  try simp only [hk]
  have key : ∀ b o (len cap : Nat), 0 ≤ i ∧ i < len → (Instr.indexAt t (.slice (some ⟨b, o, none⟩) len cap) (.int ik i)).run P w = Result.andThen ((sizeOf e).run P w) (fun s w' => .ok (.pointer (some ⟨b, o + i.toNat * s, none⟩)) w') := by
   intro b o len cap hb
   simp only [Instr.indexAt, asIntOf, Sem.run_bind, Sem.run_pure, Result.andThen_ok, run_under' hu, Instr.sureAddr, if_pos hb]
   cases (sizeOf e).run P w <;> simp [add_addr]
  split at hp
  ·rename_i t' xs
   simp only [VR, CR] at hx
   obtain ⟨a, cap, rfl, hcap, -, -, hne⟩ := hx
   obtain ⟨h0, h1, h2⟩ := hp
   have hlt : i.toNat < xs.length := by omega
   obtain ⟨b, o, rfl, him, hcs⟩ := hne (by intro hnil; rw [hnil] at hlt; simp at hlt)
   have oke := hti e (.inr (by rw [h2]; exact t'.sz_pos))
   refine Ran.pure hrel ⟨rfl, rfl⟩ ⟨_, (key _ _ _ _ ⟨h0, h1⟩).trans (by rw [oke.run_sizeOf]; rfl), ?_⟩
   simp only [ifp, VR, CR]
   refine ⟨b, o + i.toNat * t'.sz, by simp [h2], him, fun q u hq => ?_⟩
   have hat : t'.at xs i.toNat = xs[i.toNat] := by simp [ET.at, List.getD, List.getElem?_eq_getElem hlt]
   have hl := ET.cells_len t' (t'.at xs i.toNat)
   rw [Nat.add_assoc]
   refine hcs _ _ ?_
   rw [flat_get t' xs i.toNat q hlt (by have := (List.getElem?_eq_some_iff.1 hq).1; omega), ← hat]; exact hq
  ·rename_i t' k off len
   have hkk := hrd k (by simp [refsV, refsC])
   simp only [VR, CR] at hx
   obtain ⟨a, cap, rfl, hcap, -, -, hne⟩ := hx
   split at hp
   ·rename_i t'' xs hcs
    obtain ⟨h0, h1, h2, h3, h4⟩ := hp
    subst h4
    obtain ⟨b, base, hφ, rfl, hs⟩ := hne (by omega)
    have oke := hti e (.inr (by rw [h3]; exact t'.sz_pos))
    try simp only [hcs]
    refine Ran.pure hrel ⟨rfl, rfl⟩ ⟨_, (key _ _ _ _ ⟨h0, h1⟩).trans (by rw [oke.run_sizeOf]; rfl), ?_⟩
    simp only [ifp, VR, CR, CapR]
    exact ⟨b, base, hφ, by simp [h3, Nat.add_mul, Nat.add_assoc]⟩
   ·exact hp.elim
  ·exact hp.elim
 ·exact hp.elim
end
end Go.Proofs.YtfmjgoeclilcnaaGreatDoor
namespace Go.Proofs.YtfmjgoeclilcnaaGreatDoor
open Go.RowKit
theorem Cells.of_block {w w' : World} {b : Nat} {c : Array Value} (h : Cells w b c) (hb : w'.heap[b]? = w.heap[b]?) : Cells w' b c := by
 obtain ⟨e, fr, h1, h2⟩ := h
 exact ⟨e, fr, hb.trans h1, h2⟩
theorem ObjR.mono {φ φ' : Phi} {T T' : Tab} {w w' : World} (g : Ge φ T w φ' T' w') {k : Nat} {o : Obj} (hb : ∀ b base, φ k = some (b, base) → w'.heap[b]? = w.heap[b]?) (hn : φ k = none → φ' k = none) (h : ObjR φ T w k o) : ObjR φ' T' w' k o := by
 cases o with
 | cells cs =>
   obtain ⟨b, base, c, hφ, hC, hcs⟩ := h
   refine ⟨b, base, c, g.phi _ _ hφ, hC.of_block (hb _ _ hφ), fun i tc hi => ?_⟩
   obtain ⟨v, hv, hr⟩ := hcs i tc hi
   exact ⟨v, hv, hr.mono g⟩
 | arr t xs =>
   rcases h with ⟨h1, h2⟩ | ⟨b, base, c, hφ, hC, hcs⟩
   ·exact .inl ⟨hn h1, h2⟩
   ·exact .inr ⟨b, base, c, g.phi _ _ hφ, hC.of_block (hb _ _ hφ), hcs⟩
theorem Cells.lt {w : World} {b : Nat} {c : Array Value} (h : Cells w b c) : b < w.heap.size := by
 obtain ⟨e, fr, h1, -⟩ := h
 rcases Nat.lt_or_ge b w.heap.size with h | h
 ·exact h
 ·rw [Array.getElem?_eq_none h] at h1; exact absurd h1 (by simp)
theorem ObjR.lt {φ : Phi} {T : Tab} {w : World} {k : Nat} {o : Obj} (h : ObjR φ T w k o) {b base : Nat} (hφ : φ k = some (b, base)) : b < w.heap.size := by
 cases o with
 | cells cs => obtain ⟨b', base', c, hφ', hC, -⟩ := h; rw [hφ] at hφ'; cases hφ'; exact hC.lt
 | arr t xs =>
   rcases h with ⟨h1, -⟩ | ⟨b', base', c, hφ', hC, -⟩
   ·rw [hφ] at h1; cases h1
   ·rw [hφ] at hφ'; cases hφ'; exact hC.lt
theorem Own.lt {φ : Phi} {T : Tab} {w : World} (h : Rel φ T w) {b : Nat} (ho : Own φ T b) : b < w.heap.size := by
 obtain ⟨k, base, hk, hφ⟩ := ho
 cases hT : T k with
 | none => exact absurd hT hk
 | some o => exact (h.obj k o hT).lt hφ
def putPhi (φ : Phi) (n : Nat) (p : Option (Nat × Nat)) : Phi := ⟨fun k => if k = n then p else φ k, φ.fr⟩
theorem Ge.frd {φ φ' : Phi} {T T' : Tab} {w w' : World} (h : Rel φ T w) (g : Ge φ T w φ' T' w') : ∀ b, φ'.fr b → b < w'.heap.size ∧ ¬ Own φ' T' b := fun b hb =>
 let ⟨h1, h2⟩ := h.frd b ((g.fr b).1 hb)
 ⟨Nat.lt_of_lt_of_le h1 g.size, fun ho => h2 (g.own b h1 ho)⟩
theorem Ge.glo {φ φ' : Phi} {T T' : Tab} {w w' : World} (h : Rel φ T w) (g : Ge φ T w φ' T' w') : GloOk φ' T' w' := fun q hq => by
 obtain ⟨h1, c, e, f, h2, h3⟩ := h.glo q hq
 have hb : q.1 < w.heap.size := (Array.getElem?_eq_some_iff.1 h2).1
 exact ⟨fun ho => h1 (g.own _ hb ho), c, e, f, (g.block _ hb h1).trans h2, h3⟩
theorem addT_one_self (T : Tab) (n : Nat) (o : Obj) : addT T n [o] n = some o := by simp [addT]
theorem addT_one_ne (T : Tab) (n : Nat) (o : Obj) {k : Nat} (h : k ≠ n) : addT T n [o] k = T k := by
 unfold addT
 split
 ·have : k - n ≠ 0 := by omega
  rw [List.getElem?_eq_none (by simp; omega)]
 ·rfl
theorem new_obj {φ : Phi} {T : Tab} {w : World} {n : Nat} (hrel : Rel φ T w) (hn : φ n = none) (hT : T n = none) (e : TypeId) (cells : Array Value) (o : Obj) (fr : Nat × Nat) (hfr : ∀ j, j < cells.size → ¬ (fr.1 ≤ j ∧ j < fr.2))
  (ho : ∀ φ' T' w', Ge φ T w φ' T' w' → φ' n = some (w.heap.size, 0) → Cells w' w.heap.size cells → ObjR φ' T' w' n o) :
  let w' : World := { w with heap := w.heap.push (.cells cells e fr) }
  let φ' := putPhi φ n (some (w.heap.size, 0))
  Rel φ' (addT T n [o]) w' ∧ Ge φ T w φ' (addT T n [o]) w' ∧ Dom φ φ' n 1 ∧ ∀ b, b < w.heap.size → w'.heap[b]? = w.heap[b]? := by
 intro w' φ'
 have hblock : ∀ b, b < w.heap.size → w'.heap[b]? = w.heap[b]? := fun b hb => by
  show (w.heap.push _)[b]? = _
  rw [Array.getElem?_push, if_neg (by omega)]
 have hphi : ∀ k p, φ k = some p → φ' k = some p := fun k p hk => by
  show (if k = n then _ else _) = _
  rw [if_neg (by intro h; subst h; rw [hn] at hk; cases hk)]; exact hk
 have hown : ∀ b, b < w.heap.size → Own φ' (addT T n [o]) b → Own φ T b := by
  rintro b hb ⟨k, base, hk, hφ⟩
  by_cases h : k = n
  ·subst h
   have : φ' k = some (w.heap.size, 0) := by show (if k = k then _ else _) = _; simp
   rw [this] at hφ; cases hφ; omega
  ·refine ⟨k, base, by rwa [addT_one_ne T n o h] at hk, ?_⟩
   have : φ' k = φ k := by show (if k = n then _ else _) = _; rw [if_neg h]
   rw [← this]; exact hφ
 have hge : Ge φ T w φ' (addT T n [o]) w' := {
  os := rfl, tape := rfl, output := rfl
  size := by show _ ≤ (w.heap.push _).size; simp
  phi := hphi
  block := fun b hb _ => hblock b hb
  own := hown
  sizes := fun b hb => by unfold sizeAt; rw [hblock b hb]
  fr := fun _ => Iff.rfl }
 refine ⟨⟨?_, ?_, Ge.frd hrel hge, Ge.glo hrel hge⟩, hge, ?_, hblock⟩
 ·intro k o' hk
  by_cases h : k = n
  ·subst h
   rw [addT_one_self] at hk; cases hk
   refine ho φ' _ w' hge (by show (if k = k then _ else _) = _; simp) ⟨e, fr, ?_, hfr⟩
   show (w.heap.push _)[w.heap.size]? = _
   simp
  ·rw [addT_one_ne T n o h] at hk
   have hR := hrel.obj k o' hk
   refine hR.mono hge (fun b base hφ => hblock b (hR.lt hφ)) fun hnone => ?_
   show (if k = n then _ else _) = _
   rw [if_neg h]; exact hnone
 ·intro k k' b base base' hk hk' hφ hφ'
  have hb : ∀ i c, addT T n [o] i ≠ none → i ≠ n → φ' i = some (b, c) → b < w.heap.size := by
   intro i c hi hne hφi
   rw [addT_one_ne T n o hne] at hi
   have : φ i = some (b, c) := by rw [← hφi]; show _ = if i = n then _ else _; rw [if_neg hne]
   cases hTi : T i with
   | none => exact absurd hTi hi
   | some oi => exact (hrel.obj i oi hTi).lt this
  have hself : φ' n = some (w.heap.size, 0) := by show (if n = n then _ else _) = _; simp
  by_cases h : k = n
  ·by_cases h' : k' = n
   ·rw [h, h']
   ·have := hb k' base' hk' h' hφ'
    subst h; rw [hself] at hφ; cases hφ; omega
  ·by_cases h' : k' = n
   ·have := hb k base hk h hφ
    subst h'; rw [hself] at hφ'; cases hφ'; omega
   ·rw [addT_one_ne T n o h] at hk
    rw [addT_one_ne T n o h'] at hk'
    refine hrel.inj k k' b base base' hk hk' ?_ ?_
    ·rw [← hφ]; show _ = if k = n then _ else _; rw [if_neg h]
    ·rw [← hφ']; show _ = if k' = n then _ else _; rw [if_neg h']
 ·intro k hk
  by_cases h : k = n
  ·exact .inr ⟨by omega, by omega⟩
  ·left
   have : φ' k = φ k := by show (if k = n then _ else _) = _; rw [if_neg h]
   rwa [this] at hk
theorem VR.cells' {φ : Phi} {T : Tab} {w : World} {x : TV} {v : Value} (h : VR φ T w x v) (hx : x.cells ≠ []) (hs : x.isAgg = true ∨ ∃ c, x = .one c ∧ storable c) :
  All2 (CR φ T w) x.cells v.cells.toList ∧ ∀ u ∈ v.cells.toList, True := by
 refine ⟨?_, fun _ _ => trivial⟩
 refine h.cells ?_ ?_ ?_
 ·rintro l rfl; simp [TV.cells] at hx
 ·rintro c u rfl; simp [TV.cells] at hx
 ·rcases hs with hs | ⟨c, rfl, hc⟩
  ·exact .inl hs
  ·right
   unfold VR at h
   cases c with
   | val u => cases h; exact hc
   | ptr k off => obtain ⟨b, base, -, rfl⟩ := h; rfl
   | eptr k sz i j => obtain ⟨b, base, -, rfl⟩ := h; rfl
   | osl t k off len => obtain ⟨a, cap, rfl, -⟩ := h; rfl
   | isl t xs => obtain ⟨a, cap, rfl, -⟩ := h; rfl
   | ip cs off => obtain ⟨b, o, rfl, -⟩ := h; rfl
   | fn f caps => obtain ⟨vs, rfl, -⟩ := h; rfl
   | ifc => obtain ⟨t, u, rfl⟩ := h; rfl
   | nb p q => obtain ⟨b, rfl, -⟩ := h; rfl
   | any => exact hc.elim
theorem storable_one {φ : Phi} {T : Tab} {w : World} {c : TC} {v : Value} (h : CR φ T w c v) (hc : storable c) : v.oneCell' = true := by
 cases c with
 | val u => cases h; unfold storable at hc; cases v <;> simp_all [oneCell, Value.oneCell']
 | ptr k off => obtain ⟨b, base, -, rfl⟩ := h; rfl
 | eptr k sz i j => obtain ⟨b, base, -, rfl⟩ := h; rfl
 | osl t k off len => obtain ⟨a, cap, rfl, -⟩ := h; rfl
 | isl t xs => obtain ⟨a, cap, rfl, -⟩ := h; rfl
 | ip cs off => obtain ⟨b, o, rfl, -⟩ := h; rfl
 | fn f caps => obtain ⟨vs, rfl, -⟩ := h; rfl
 | ifc => obtain ⟨t, u, rfl⟩ := h; rfl
 | nb p q => obtain ⟨b, rfl, -⟩ := h; rfl
 | any => exact hc.elim
theorem allStorable_mem : ∀ {cs : List TC}, allStorable cs → ∀ c ∈ cs, storable c
 | [], _, c, h => by simp at h
 | a :: as, ⟨h1, h2⟩, c, h => by
   rcases List.mem_cons.1 h with rfl | h
   ·exact h1
   ·exact allStorable_mem h2 c h
theorem isAgg_or {x : TV} (hl : x.cells ≠ []) (hs : allStorable x.cells) : x.isAgg = true ∨ ∃ c, x = .one c ∧ storable c := by
 cases x with
 | one c => exact .inr ⟨c, rfl, hs.1⟩
 | agg cs => exact .inl rfl
 | tup l => simp [TV.cells] at hl
 | gd c u => simp [TV.cells] at hl
section
variable {P : Program} {ti : TypeId → TI} (hti : ∀ t, ((ti t).k ≠ .other ∨ 0 < (ti t).sz) → TIok P t (ti t))
variable {φ : Phi} {T : Tab} {w : World} {n : Nat} {rd : Nat → Option Obj} (hrel : Rel φ T w)
include hti hrel
theorem box_ran {t : TypeId} {x : TV} {v : Value} (hn : φ n = none) (hT : T n = none) (hx : VR φ T w x v) (hp : (boxv ti n t x).pre) : Ran P φ T w n (boxv ti n t x) (Instr.box t v) := by
 obtain ⟨hl, hpos, -, hst⟩ := hp
 have hne : x.cells ≠ [] := by intro h; rw [h] at hl; simp at hl; omega
 have hcs := (hx.cells' hne (isAgg_or hne hst)).1
 obtain ⟨h1, h2, h3, h4⟩ := new_obj hrel hn hT t v.cells (.cells x.cells) (0, 0) (fun _ _ => by simp) fun φ' T' w' g hφ hC => by
  refine ⟨_, _, _, hφ, hC, fun i tc hi => ?_⟩
  obtain ⟨u, hu, hr⟩ := hcs.get i tc hi
  exact ⟨u, by simpa using hu, hr.mono g⟩
 refine ⟨.pointer (some ⟨w.heap.size, 0, none⟩), _, _, ?_, ?_, h1, h2, h3, fun b hb _ => h4 b hb⟩
 ·simp [Instr.box, newVar, newRow, newObj, Sem.run]
 ·simp only [boxv, VR, CR, CapR]
  exact ⟨w.heap.size, 0, by simp [putPhi], rfl⟩
theorem zeroOf_VR {t : TypeId} (ok : TIok P t (ti t)) : ∃ z, (zeroValue t).run P w = .ok z w ∧ VR φ T w (zeroOf ti t) z := by
 obtain ⟨z, hz, h1, h2, h3⟩ := ok.run_zero w
 refine ⟨z, hz, ?_⟩
 unfold zeroOf
 cases ha : (ti t).agg with
 | true =>
   obtain ⟨cs, rfl⟩ := h2 ha
   simp only [if_true, VR]
   refine ⟨cs, rfl, All2.of_get (by simp [← h1, Value.cells]) fun i a b hi hb => ?_⟩
   simp only [← h1, Value.cells, List.getElem?_map, Option.map_eq_some_iff] at hi
   obtain ⟨u, hu, rfl⟩ := hi
   rw [hu] at hb; cases hb; rfl
 | false =>
   simp only [Bool.false_eq_true, if_false, VR, h3 ha]
   rfl
theorem alloc_ran {t : TypeId} (hn : φ n = none) (hT : T n = none) (hp : (boxv ti n t (zeroOf ti t)).pre) : Ran P φ T w n (boxv ti n t (zeroOf ti t)) (Instr.alloc t true (.tuple #[])) := by
 have ok := hti t (.inr hp.2.1)
 obtain ⟨z, hz, hv⟩ := zeroOf_VR hti hrel (w := w) (φ := φ) (T := T) ok
 have := box_ran hti hrel hn hT hv hp
 obtain ⟨r, w', φ', h, rest⟩ := this
 refine ⟨r, w', φ', ?_, rest⟩
 simp only [Instr.alloc, Sem.run_bind, hz, Result.andThen_ok]
 simpa [Instr.box] using h
end
end Go.Proofs.YtfmjgoeclilcnaaGreatDoor
namespace Go.Proofs.YtfmjgoeclilcnaaGreatDoor
open Go.RowKit
theorem setCells_heap (b : Nat) : ∀ (vs : List Value) (o : Nat) (w : World) (c : Array Value) (e : TypeId) (fr : Nat × Nat), w.heap[b]? = some (.cells c e fr) → o + vs.length ≤ c.size →
  ∃ c', (w.setCells b o vs).heap[b]? = some (.cells c' e fr) ∧ c'.size = c.size ∧ (∀ i, c'[i]? = if o ≤ i ∧ i < o + vs.length then vs[i - o]? else c[i]?) ∧
    (∀ b', b' ≠ b → (w.setCells b o vs).heap[b']? = w.heap[b']?) ∧ (w.setCells b o vs).heap.size = w.heap.size ∧ (w.setCells b o vs).os = w.os ∧ (w.setCells b o vs).tape = w.tape ∧ (w.setCells b o vs).output = w.output
 | [], o, w, c, e, fr, h, hl => ⟨c, h, rfl, fun i => by rw [if_neg (by simp <;> omega)], fun _ _ => rfl, rfl, rfl, rfl, rfl⟩
 | v :: vs, o, w, c, e, fr, h, hl => by
   have hl' : o + 1 + vs.length ≤ c.size := by simp at hl; omega
   have h1 : (w.setCell ⟨b, o, none⟩ v).heap[b]? = some (.cells (c.setIfInBounds o v) e fr) := by
    simp only [World.setCell, Array.getElem?_modify, if_true, h, Option.map_some]
    rfl
   obtain ⟨c', k1, k2, k3, k4, k5, k6, k7, k8⟩ := setCells_heap b vs (o + 1) (w.setCell ⟨b, o, none⟩ v) _ e fr h1 (by simpa using hl')
   refine ⟨c', k1, by simpa using k2, fun i => ?_, fun b' hb' => ?_, ?_, k6, k7, k8⟩
   ·rw [k3 i]
    by_cases hi : o + 1 ≤ i ∧ i < o + 1 + vs.length
    ·rw [if_pos hi, if_pos ⟨by omega, by simp; omega⟩, show i - o = (i - (o + 1)) + 1 by omega]; simp
    ·rw [if_neg hi]
     by_cases hio : i = o
     ·subst hio
      rw [if_pos ⟨Nat.le_refl _, by simp⟩]
      simp [Array.getElem?_setIfInBounds, show i < c.size by simp at hl; omega]
     ·rw [if_neg (by simp <;> omega), Array.getElem?_setIfInBounds, if_neg (by omega)]
   ·exact (k4 b' hb').trans (by simp only [World.setCell, Array.getElem?_modify]; rw [if_neg (by omega)])
   ·exact k5.trans (by simp [World.setCell])
theorem layV_get : ∀ (vs cs : List Value) (off i : Nat), off + vs.length ≤ cs.length → (layV off vs cs)[i]? = if off ≤ i ∧ i < off + vs.length then vs[i - off]? else cs[i]?
 | [], cs, off, i, _ => by rw [layV, if_neg (by simp <;> omega)]
 | v :: vs, cs, off, i, h => by
   simp only [List.length_cons] at h ⊢
   rw [layV, layV_get vs _ _ _ (by simp; omega)]
   by_cases hi : off + 1 ≤ i ∧ i < off + 1 + vs.length
   ·rw [if_pos hi, if_pos ⟨by omega, by omega⟩, show i - off = (i - (off + 1)) + 1 by omega]; simp
   ·rw [if_neg hi]
    by_cases hio : i = off
    ·subst hio
     rw [if_pos ⟨Nat.le_refl _, by omega⟩]
     simp [List.getElem?_set, show i < cs.length by omega]
    ·rw [if_neg (by omega), List.getElem?_set, if_neg (by omega)]
theorem layV_len : ∀ (vs cs : List Value) (off : Nat), (layV off vs cs).length = cs.length
 | [], cs, off => rfl
 | v :: vs, cs, off => by rw [layV, layV_len vs]; simp
theorem lay_get : ∀ (vs cs : List TC) (off i : Nat), off + vs.length ≤ cs.length → (lay off vs cs)[i]? = if off ≤ i ∧ i < off + vs.length then vs[i - off]? else cs[i]?
 | [], cs, off, i, _ => by rw [lay, if_neg (by simp <;> omega)]
 | v :: vs, cs, off, i, h => by
   simp only [List.length_cons] at h ⊢
   rw [lay, lay_get vs _ _ _ (by simp; omega)]
   by_cases hi : off + 1 ≤ i ∧ i < off + 1 + vs.length
   ·rw [if_pos hi, if_pos ⟨by omega, by omega⟩, show i - off = (i - (off + 1)) + 1 by omega]; simp
   ·rw [if_neg hi]
    by_cases hio : i = off
    ·subst hio
     rw [if_pos ⟨Nat.le_refl _, by omega⟩]
     simp [List.getElem?_set, show i < cs.length by omega]
    ·rw [if_neg (by omega), List.getElem?_set, if_neg (by omega)]
theorem lay_len : ∀ (vs cs : List TC) (off : Nat), (lay off vs cs).length = cs.length
 | [], cs, off => rfl
 | v :: vs, cs, off => by rw [lay, lay_len vs]; simp
theorem plain_eq : ∀ {cs : List TC} {vs : List Value}, plain cs = some vs → cs = vs.map .val
 | [], vs, h => by simp [plain] at h; subst h; rfl
 | c :: cs, vs, h => by
   unfold plain at h
   split at h
   ·rename_i v us hv hu
    cases h
    have : c = .val v := by cases c <;> simp_all [tcv]
    rw [this, plain_eq hu]; rfl
   ·exact absurd h (by simp)
theorem write_obj {φ : Phi} {T : Tab} {w w' : World} {k b base : Nat} {o : Obj} (hrel : Rel φ T w) (hk : T k ≠ none) (hφ : φ k = some (b, base))
  (hb : b < w.heap.size) (hother : ∀ b', b' ≠ b → w'.heap[b']? = w.heap[b']?) (hsize : w'.heap.size = w.heap.size) (hos : w'.os = w.os) (htape : w'.tape = w.tape) (hout : w'.output = w.output)
  (hsz : sizeAt w' b = sizeAt w b)
  (ho : ∀ T', Ge φ T w φ T' w' → ObjR φ T' w' k o) :
  Rel φ (updT T [(k, some o)]) w' ∧ Ge φ T w φ (updT T [(k, some o)]) w' := by
 have hT' : ∀ j, updT T [(k, some o)] j = if j = k then some o else T j := by
  intro j; simp only [updT]; by_cases h : j = k <;> simp [h, hk]
 have hge : Ge φ T w φ (updT T [(k, some o)]) w' := {
  os := hos, tape := htape, output := hout, size := by omega
  phi := fun _ _ h => h
  block := fun b' hb' hn => hother b' (by rintro rfl; exact hn ⟨k, base, hk, hφ⟩)
  own := by
   rintro b' hb' ⟨j, c, hj, hφj⟩
   refine ⟨j, c, ?_, hφj⟩
   rw [hT'] at hj
   by_cases h : j = k
   ·subst h; exact hk
   ·rwa [if_neg h] at hj
  sizes := fun b' hb' => by
   by_cases h : b' = b
   ·subst h; exact hsz
   ·unfold sizeAt; rw [hother b' h]
  fr := fun _ => Iff.rfl }
 refine ⟨⟨?_, ?_, Ge.frd hrel hge, Ge.glo hrel hge⟩, hge⟩
 ·intro j o' hj
  rw [hT'] at hj
  by_cases h : j = k
  ·subst h; rw [if_pos rfl] at hj; cases hj; exact ho _ hge
  ·rw [if_neg h] at hj
   refine (hrel.obj j o' hj).mono hge (fun b' base' hφj => hother b' ?_) fun h => h
   rintro rfl
   exact h (hrel.inj j k _ _ _ (by rw [hj]; simp) hk hφj hφ)
 ·intro i j b' base' base'' hi hj hφi hφj
  have hne : ∀ i, updT T [(k, some o)] i ≠ none → T i ≠ none := by
   intro i hi
   rw [hT'] at hi
   by_cases h : i = k
   ·subst h; exact hk
   ·rwa [if_neg h] at hi
  exact hrel.inj i j b' base' base'' (hne i hi) (hne j hj) hφi hφj
section
variable {P : Program} {ti : TypeId → TI} (hti : ∀ t, ((ti t).k ≠ .other ∨ 0 < (ti t).sz) → TIok P t (ti t))
variable {φ : Phi} {T : Tab} {w : World} {n : Nat} {rd : Nat → Option Obj} (hrel : Rel φ T w)
include hti hrel
def RanU (P : Program) (φ : Phi) (T : Tab) (w : World) (n : Nat) (s : St) (m : Sem Unit) : Prop :=
 ∃ w' φ', m.run P w = .ok () w' ∧ Rel φ' (newT T n s) w' ∧ Ge φ T w φ' (newT T n s) w' ∧ Dom φ φ' n s.news.length ∧ Kept φ T (fun k => ∃ o, (k, o) ∈ s.upd) w w'
theorem run_storeVar {t : TypeId} {x : TI} (ok : TIok P t x) {b o : Nat} {v : Value} {c : Array Value} (hC : Cells w b c) (hs : v.cells.size = x.sz) (ho : o + v.cells.size ≤ c.size) (h1 : ∀ u ∈ v.cells.toList, u.oneCell' = true) :
  (storeVar t ⟨b, o, none⟩ v).run P w = .ok () (w.setCells b o v.cells.toList) := by
 obtain ⟨e, fr, hb, hfr⟩ := hC
 simp only [storeVar, Sem.run_bind, ok.run_sizeOf, Result.andThen_ok]
 rw [if_neg (by omega)]
 rw [run_storeCells_cells b o v.cells.toList 0 w ?_ ?_ h1]
 ·simp
 ·intro j hj
  simp only [World.cell?, hb]
  have : o + 0 + j < c.size := by simp at hj; omega
  simp only [Nat.add_zero] at this ⊢
  simp [this]
 ·intro j hj
  have : o + 0 + j < c.size := by simp at hj; omega
  have := hfr _ this
  simp only [World.frozen?, hb]
  simp only [Bool.and_eq_false_imp, decide_eq_true_eq, decide_eq_false_iff_not]
  intro h; omega
theorem store_ran {t : TypeId} {a x : TV} {u v : Value} (hrd : ∀ k, k ∈ refsV true a → T k = rd k) (ha : VR φ T w a u) (hx : VR φ T w x v) (hp : (storev ti rd t a x).pre) :
  RanU P φ T w n (storev ti rd t a x) (Instr.storeAt t u v) := by
 unfold storev at hp ⊢
 split at hp
 ·rename_i k off
  have hk := hrd k (by simp [refsV, refsC])
  simp only [VR, CR, CapR] at ha
  obtain ⟨b, base, hφ, rfl⟩ := ha
  split at hp
  ·rename_i cs hcs
   try simp only [hcs]
   obtain ⟨h1, h2, h3, hpos⟩ := hp
   have ok := hti t (.inr hpos)
   have hTk := hk.trans hcs
   obtain ⟨b', base', c, hφ', hC, hcells⟩ := hrel.obj k _ hTk
   rw [hφ] at hφ'; cases hφ'
   have hne : x.cells ≠ [] := by intro h; rw [h] at h2; simp at h2; omega
   have hvs := (hx.cells' hne (isAgg_or hne h3)).1
   have hlen : v.cells.toList.length = x.cells.length := hvs.length.symm
   have hroom : base + off + v.cells.size ≤ c.size := by
    obtain ⟨y, hy, -⟩ := hcells (off + (x.cells.length - 1)) _ (List.getElem?_eq_getElem (by omega))
    have := (Array.getElem?_eq_some_iff.1 hy).1
    simp at hlen; omega
   have hone : ∀ y ∈ v.cells.toList, y.oneCell' = true := by
    intro y hy
    obtain ⟨i, hi, rfl⟩ := List.getElem_of_mem hy
    obtain ⟨z, hz, hr⟩ := hvs.get i x.cells[i] (List.getElem?_eq_getElem (by omega))
    rw [List.getElem?_eq_getElem hi] at hz; cases hz
    exact storable_one hr (allStorable_mem h3 _ (List.getElem_mem _))
   have hrun := run_storeVar hti hrel ok hC (o := base + off) (v := v) (by simp at hlen; omega) hroom hone
   obtain ⟨e, fr, hb, hfr⟩ := hC
   obtain ⟨c', k1, k2, k3, k4, k5, k6, k7, k8⟩ := setCells_heap b v.cells.toList (base + off) w c e fr hb (by simpa using hroom)
   have hC' : Cells (w.setCells b (base + off) v.cells.toList) b c' := ⟨e, fr, k1, fun j hj => hfr j (by omega)⟩
   obtain ⟨r1, r2⟩ := write_obj hrel (o := .cells (lay off x.cells cs)) (by rw [hTk]; simp) hφ (Cells.lt ⟨e, fr, hb, hfr⟩) k4 k5 k6 k7 k8 (by unfold sizeAt; rw [k1, hb]; exact k2) fun T' g => by
    refine ⟨b, base, c', hφ, hC', fun i tc hi => ?_⟩
    rw [lay_get _ _ _ _ (by omega)] at hi
    rw [k3]
    split at hi
    ·rename_i hin
     rw [if_pos ⟨by omega, by omega⟩, show base + i - (base + off) = i - off by omega]
     obtain ⟨z, hz, hr⟩ := hvs.get _ _ hi
     exact ⟨z, hz, hr.mono g⟩
    ·rename_i hin
     rw [if_neg (by omega)]
     obtain ⟨z, hz, hr⟩ := hcells i tc hi
     exact ⟨z, hz, hr.mono g⟩
   refine ⟨w.setCells b (base + off) v.cells.toList, φ, ?_, ?_, ?_, fun k hk => .inl hk, fun b' _ hU => k4 b' (by rintro rfl; exact hU k base ⟨_, List.mem_singleton.2 rfl⟩ (by rw [hTk]; simp) hφ)⟩
   ·simpa [Instr.storeAt, Instr.sureAddr] using hrun
   ·simpa [newT, addT_nil] using r1
   ·simpa [newT, addT_nil] using r2
  ·exact hp.elim
 ·rename_i k sz i j
  have hk := hrd k (by simp [refsV, refsC])
  simp only [VR, CR, CapR] at ha
  obtain ⟨b, base, hφ, rfl⟩ := ha
  split at hp
  ·rename_i t' xs vs hcs hvs
   try simp only [hcs, hvs]
   obtain ⟨hi, hsz, hj, hl, h3, hcell, hpos⟩ := hp
   subst hsz
   have ok := hti t (.inr hpos)
   have hTk := hk.trans hcs
   rcases hrel.obj k _ hTk with ⟨-, hnil⟩ | ⟨b', base', c, hφ', hC, hcells⟩
   ·subst hnil; simp at hi
   rw [hφ] at hφ'; cases hφ'
   have hxc := plain_eq hvs
   have hne : x.cells ≠ [] := by intro h; rw [h] at hxc; have := congrArg List.length hxc; simp at this; omega
   have hvr := (hx.cells' hne (isAgg_or hne h3)).1
   have hveq : v.cells.toList = vs := by
    have hlen := hvr.length
    rw [hxc] at hlen; simp at hlen
    apply List.ext_getElem?
    intro q
    by_cases hq : q < vs.length
    ·obtain ⟨z, hz, hr⟩ := hvr.get q (.val vs[q]) (by rw [hxc]; simp [hq])
     rw [hz, List.getElem?_eq_getElem hq]; exact congrArg some hr
    ·rw [List.getElem?_eq_none (by rw [Array.length_toList]; omega), List.getElem?_eq_none (by omega)]
   have hat : t'.at xs i = xs[i] := by simp [ET.at, List.getD, List.getElem?_eq_getElem hi]
   have hcl := ET.cells_len t' (t'.at xs i)
   have hroom : base + (i * t'.sz + j) + v.cells.size ≤ c.size := by
    have hlast : (xs.flatMap t'.cells)[i * t'.sz + (t'.sz - 1)]? ≠ none := by
     have hp' := t'.sz_pos
     rw [flat_get t' xs i _ hi (by omega), List.getElem?_eq_getElem (by rw [ET.cells_len]; omega)]; simp
    obtain ⟨y, hy⟩ := Option.ne_none_iff_exists'.1 hlast
    have := (Array.getElem?_eq_some_iff.1 (hcells _ _ hy)).1
    have hz : v.cells.size = vs.length := by rw [← hveq]; simp
    omega
   have hone : ∀ y ∈ v.cells.toList, y.oneCell' = true := by
    intro y hy
    obtain ⟨q, hq, rfl⟩ := List.getElem_of_mem hy
    have hlen := hvr.length
    obtain ⟨z, hz, hr⟩ := hvr.get q x.cells[q] (List.getElem?_eq_getElem (by omega))
    rw [List.getElem?_eq_getElem hq] at hz; cases hz
    exact storable_one hr (allStorable_mem h3 _ (List.getElem_mem _))
   have hrun := run_storeVar hti hrel ok hC (o := base + (i * t'.sz + j)) (v := v) (by rw [← hl, ← hveq]; simp) hroom hone
   obtain ⟨e, fr, hb, hfr⟩ := hC
   obtain ⟨c', k1, k2, k3, k4, k5, k6, k7, k8⟩ := setCells_heap b v.cells.toList (base + (i * t'.sz + j)) w c e fr hb (by simpa using hroom)
   have hC' : Cells (w.setCells b (base + (i * t'.sz + j)) v.cells.toList) b c' := ⟨e, fr, k1, fun j hj => hfr j (by omega)⟩
   obtain ⟨r1, r2⟩ := write_obj hrel (o := .arr t' (xs.set i (t'.ofCells (layV j vs (t'.cells (t'.at xs i)))))) (by rw [hTk]; simp) hφ (Cells.lt ⟨e, fr, hb, hfr⟩) k4 k5 k6 k7 k8 (by unfold sizeAt; rw [k1, hb]; exact k2) fun T' g => by
    refine .inr ⟨b, base, c', hφ, hC', fun q y hq => ?_⟩
    have hql : q < xs.length * t'.sz := by have := (List.getElem?_eq_some_iff.1 hq).1; rw [flat_len] at this; simpa using this
    have hsp := t'.sz_pos
    have hqd : q = q / t'.sz * t'.sz + q % t'.sz := by rw [Nat.mul_comm]; exact (Nat.div_add_mod q t'.sz).symm
    have hqi : q / t'.sz < xs.length := (Nat.div_lt_iff_lt_mul hsp).2 hql
    have hqm : q % t'.sz < t'.sz := Nat.mod_lt _ hsp
    have hold : ∀ y, (xs.flatMap t'.cells)[q]? = some y → c[base + q]? = some y := hcells q
    rw [k3, hveq]
    by_cases hqq : q / t'.sz = i
    ·rw [hqd, flat_get t' _ _ _ (by simpa using hqi) hqm] at hq
     simp only [hqq, List.getElem_set_self] at hq
     rw [hcell, layV_get _ _ _ _ (by omega)] at hq
     have hq' : q = i * t'.sz + q % t'.sz := by rw [← hqq]; exact hqd
     have hvl : v.cells.size = vs.length := by rw [← hveq]; simp
     by_cases hin : j ≤ q % t'.sz ∧ q % t'.sz < j + vs.length
     ·rw [if_pos hin] at hq
      rw [if_pos ⟨by omega, by omega⟩, show base + q - (base + (i * t'.sz + j)) = q % t'.sz - j by omega]
      exact hq
     ·rw [if_neg hin] at hq
      rw [if_neg (by omega)]
      apply hold
      rw [hq', flat_get t' _ _ _ hi hqm, ← hat]; exact hq
    ·rw [if_neg ?_]
     ·apply hold
      rw [hqd, flat_get t' _ _ _ (by simpa using hqi) hqm] at hq
      rw [hqd, flat_get t' _ _ _ hqi hqm]
      rwa [List.getElem_set_ne (by omega)] at hq
     ·intro hin
      apply hqq
      have h1 : i * t'.sz ≤ q := by omega
      have h2 : q < (i + 1) * t'.sz := by rw [Nat.succ_mul]; omega
      exact Nat.div_eq_of_lt_le h1 h2
   refine ⟨w.setCells b (base + (i * t'.sz + j)) v.cells.toList, φ, ?_, ?_, ?_, fun k hk => .inl hk, fun b' _ hU => k4 b' (by rintro rfl; exact hU k base ⟨_, List.mem_singleton.2 rfl⟩ (by rw [hTk]; simp) hφ)⟩
   ·simpa [Instr.storeAt, Instr.sureAddr] using hrun
   ·simpa [newT, addT_nil] using r1
   ·simpa [newT, addT_nil] using r2
  ·exact hp.elim
 ·exact hp.elim
end
end Go.Proofs.YtfmjgoeclilcnaaGreatDoor
namespace Go.Proofs.YtfmjgoeclilcnaaGreatDoor
open Go.RowKit
theorem eqGuard_run (P : Program) (op : BinOp) (t : TypeId) (x y : Operand) (a b : Value) (w : World) (h1 : a ≠ .nilIface ∨ b ≠ .nilIface) (h2 : (∀ c, a ≠ .agg c) ∨ ∀ c, b ≠ .agg c) :
  (eqGuard op t x y a b).run P w = .ok () w := by
 have key : (match a, b with
   | .nilIface, .nilIface => (unsupported (.noEntry "") : Sem Unit)
   | .agg _, .agg _ => unsupported (.noEntry "")
   | _, _ => pure ()) = pure () := by
  split
  ·rcases h1 with h | h <;> exact absurd rfl h
  ·rcases h2 with h | h <;> exact absurd rfl (h _)
  ·rfl
 unfold eqGuard
 split <;> simp only [Bool.not_true, Bool.not_false, if_true, Bool.false_eq_true, if_false, Sem.run_pure] <;>
  (split
   ·rcases h1 with h | h <;> exact absurd rfl h
   ·rcases h2 with h | h <;> exact absurd rfl (h _)
   ·rfl)
theorem run_equalIn_slnil (P : Program) (w : World) (d : Nat) (t e : TypeId) (a : Option Addr) (l c : Nat) (h : P.underlying t = some (.slice e)) : (Op.equalIn (d + 1) t (.slice a l c) (.slice none 0 0)).run P w = .ok a.isNone w := by
 cases a <;> simp [Op.equalIn, run_under' h]
theorem run_eql_slnil (P : Program) (w : World) (t e : TypeId) (a : Option Addr) (l c : Nat) (h : P.underlying t = some (.slice e)) : (binOp .eql t (.slice a l c) (.slice none 0 0)).run P w = .ok (.bool a.isNone) w := by
 have := run_equalIn_slnil P w 9999 t e a l c h
 simp only [binOp]
 simp [Op.equal, Op.maxDepth, this]
theorem run_neq_slnil (P : Program) (w : World) (t e : TypeId) (a : Option Addr) (l c : Nat) (h : P.underlying t = some (.slice e)) : (binOp .neq t (.slice a l c) (.slice none 0 0)).run P w = .ok (.bool (!a.isNone)) w := by
 have := run_equalIn_slnil P w 9999 t e a l c h
 simp only [binOp]
 simp [Op.equal, Op.maxDepth, this]
theorem plain_R {φ : Phi} {T : Tab} {w : World} : ∀ {cs : List TC} {vs : List Value} {xs : List Value}, plain cs = some vs → All2 (CR φ T w) cs xs → xs = vs
 | [], vs, xs, h, ha => by
   cases xs with
   | nil => simp [plain] at h; exact h.symm
   | cons => exact ha.elim
 | c :: cs, vs, [], h, ha => ha.elim
 | c :: cs, vs, x :: xs, h, ha => by
   unfold plain at h
   split at h
   ·rename_i v us hv hus
    cases h
    rw [plain_R hus ha.2]
    cases c <;> simp [tcv] at hv
    subst hv
    have := ha.1
    simp only [CR] at this
    rw [this]
   ·cases h
theorem binv_int (P : Program) (op : BinOp) (t : TypeId) (k k' : IntKind) (a b : Int) (w : World) (hp : (binv op (.int k a) (.int k' b)).pre) :
  ∃ r, (binOp op t (.int k a) (.int k' b)).run P w = .ok r w ∧ (binv op (.int k a) (.int k' b)).v = .one (.val r) := by
 cases op <;> simp only [binv, ifp, no] at hp ⊢ <;> first
  | exact hp.elim
  | (subst hp; refine ⟨_, ?_, rfl⟩; simp [binOp, Op.intArith, Op.intCmp, Op.intBits, andZ]; done)
  | (obtain ⟨rfl, hy⟩ := hp; refine ⟨_, ?_, rfl⟩; simp [binOp, Op.intDiv, hy]; done)
  | (refine ⟨_, ?_, rfl⟩; simp [binOp, Op.shift, Int.not_lt.2 hp]; done)
theorem binv_str (P : Program) (op : BinOp) (t : TypeId) (a b : ByteArray) (w : World) (hp : (binv op (.string a) (.string b)).pre) :
  ∃ r, (binOp op t (.string a) (.string b)).run P w = .ok r w ∧ (binv op (.string a) (.string b)).v = .one (.val r) := by
 cases op <;> simp only [binv, ifp, is, no] at hp ⊢ <;> first
  | exact hp.elim
  | (refine ⟨_, ?_, rfl⟩; simp [binOp, Op.stringOp]; done)
  | (refine ⟨_, ?_, rfl⟩; simp only [binOp, Op.stringOp]; rw [if_neg (by simp [IntKind.max, IntKind.signed, IntKind.bits]; omega)]; rfl)
section
variable {P : Program} {ti : TypeId → TI} (hti : ∀ t, ((ti t).k ≠ .other ∨ 0 < (ti t).sz) → TIok P t (ti t))
variable {φ : Phi} {T : Tab} {w : World} {n : Nat} {rd : Nat → Option Obj} (hrel : Rel φ T w)
include hti hrel
theorem run_equalIn_held (d : Nat) {t u : TypeId} {v : Value} (h : ∃ ms, P.underlying t = some (.interface ms)) : (Op.equalIn (d + 1) t (.iface u v) .nilIface).run P w = .ok false w := by
 obtain ⟨ms, h⟩ := h
 simp [Op.equalIn, run_under' h]
theorem run_equal_held {t u : TypeId} {v : Value} (h : ∃ ms, P.underlying t = some (.interface ms)) : (Op.equal t (.iface u v) .nilIface).run P w = .ok false w := run_equalIn_held hti hrel 9999 h
theorem eq_ran {op : BinOp} {t : TypeId} {o1 o2 : Operand} {x y : TV} {u v : Value} (hx : VR φ T w x u) (hy : VR φ T w y v) (hp : (eqop ti op t x y).pre) :
  Ran P φ T w n (eqop ti op t x y) (do eqGuard op t o1 o2 u v; binOp op t u v) := by
 unfold eqop eqv at hp ⊢
 split at hp
 ·split at hp
  ·rename_i hk
   have ok := hti t (.inl (by rw [hk]; simp))
   have hu := ok.kind; rw [hk] at hu
   simp only [VR, CR] at hx hy
   obtain ⟨t', u', rfl⟩ := hx
   subst hy
   refine Ran.pure hrel ⟨rfl, rfl⟩ ⟨.bool _, ?_, rfl⟩
   simp only [Sem.run_bind, eqGuard_run P _ t o1 o2 (.iface t' u') .nilIface w (.inl (by simp)) (.inl (by simp)), Result.andThen_ok, binOp, run_equal_held hti hrel hu]
   rfl
  ·rename_i e t' xs hk
   have ok := hti t (.inl (by rw [hk]; simp))
   have hu := ok.kind; rw [hk] at hu
   simp only [VR, CR] at hx hy
   obtain ⟨a, cap, rfl, hl, hnone, -, -⟩ := hx
   subst hy
   refine Ran.pure hrel ⟨rfl, rfl⟩ ⟨.bool _, by
    simp only [Sem.run_bind, eqGuard_run P _ t o1 o2 (.slice a xs.length cap) (.slice none 0 0) w (.inl (by simp)) (.inl (by simp)), Result.andThen_ok]
    exact run_eql_slnil P w t e a _ cap hu, ?_⟩
   have hx0 : a.isNone = true → xs = [] := fun ha => by
    have := hnone (by simpa using ha)
    exact List.length_eq_zero_iff.1 (by omega)
   simp only [is, VR, CR, Bool.false_eq_true, if_false, if_true]
   exact ⟨_, rfl, by simpa using hx0⟩
  ·rename_i e t' k off len hk
   have ok := hti t (.inl (by rw [hk]; simp))
   have hu := ok.kind; rw [hk] at hu
   simp only [VR, CR] at hx hy
   obtain ⟨a, cap, rfl, hl, hnone, -, -⟩ := hx
   subst hy
   refine Ran.pure hrel ⟨rfl, rfl⟩ ⟨.bool _, by
    simp only [Sem.run_bind, eqGuard_run P _ t o1 o2 (.slice a len cap) (.slice none 0 0) w (.inl (by simp)) (.inl (by simp)), Result.andThen_ok]
    exact run_eql_slnil P w t e a _ cap hu, ?_⟩
   have hx0 : a.isNone = true → len = 0 := fun ha => by
    have := hnone (by simpa using ha)
    omega
   simp only [is, VR, CR, Bool.false_eq_true, if_false, if_true]
   exact ⟨_, rfl, by simpa using hx0⟩
  ·rename_i fs xs ys hk
   split at hp
   ·rename_i ks us vs' hks hus hvs
    obtain ⟨h1, h2⟩ := hp
    have ok := hti t (.inl (by rw [hk]; simp))
    obtain ⟨hg, heq⟩ := ok.cmp ks hks
    simp only [VR] at hx hy
    obtain ⟨xa, rfl, hxa⟩ := hx
    obtain ⟨ya, rfl, hya⟩ := hy
    have e1 := plain_R hus hxa
    have e2 := plain_R hvs hya
    refine Ran.pure hrel ⟨rfl, rfl⟩ ⟨.bool _, ?_, rfl⟩
    simp only [Sem.run_bind, run_eqGuard_agg w _ t o1 o2 xa ya hg, Result.andThen_ok, run_eql_struct]
    have := heq w us vs' h1 h2
    rw [← e1, ← e2] at this
    simp only [Array.toArray_toList] at this
    rw [this, e1, e2]; simp
   ·exact hp.elim
  ·exact hp.elim
 ·split at hp
  ·rename_i hk
   have ok := hti t (.inl (by rw [hk]; simp))
   have hu := ok.kind; rw [hk] at hu
   simp only [VR, CR] at hx hy
   obtain ⟨t', u', rfl⟩ := hx
   subst hy
   refine Ran.pure hrel ⟨rfl, rfl⟩ ⟨.bool _, ?_, rfl⟩
   simp only [Sem.run_bind, eqGuard_run P _ t o1 o2 (.iface t' u') .nilIface w (.inl (by simp)) (.inl (by simp)), Result.andThen_ok, binOp, run_equal_held hti hrel hu]
   rfl
  ·rename_i e t' xs hk
   have ok := hti t (.inl (by rw [hk]; simp))
   have hu := ok.kind; rw [hk] at hu
   simp only [VR, CR] at hx hy
   obtain ⟨a, cap, rfl, hl, hnone, -, -⟩ := hx
   subst hy
   refine Ran.pure hrel ⟨rfl, rfl⟩ ⟨.bool _, by
    simp only [Sem.run_bind, eqGuard_run P _ t o1 o2 (.slice a xs.length cap) (.slice none 0 0) w (.inl (by simp)) (.inl (by simp)), Result.andThen_ok]
    exact run_neq_slnil P w t e a _ cap hu, ?_⟩
   have hx0 : a.isNone = true → xs = [] := fun ha => by
    have := hnone (by simpa using ha)
    exact List.length_eq_zero_iff.1 (by omega)
   simp only [is, VR, CR, Bool.false_eq_true, if_false, if_true]
   exact ⟨_, rfl, by simpa using hx0⟩
  ·rename_i e t' k off len hk
   have ok := hti t (.inl (by rw [hk]; simp))
   have hu := ok.kind; rw [hk] at hu
   simp only [VR, CR] at hx hy
   obtain ⟨a, cap, rfl, hl, hnone, -, -⟩ := hx
   subst hy
   refine Ran.pure hrel ⟨rfl, rfl⟩ ⟨.bool _, by
    simp only [Sem.run_bind, eqGuard_run P _ t o1 o2 (.slice a len cap) (.slice none 0 0) w (.inl (by simp)) (.inl (by simp)), Result.andThen_ok]
    exact run_neq_slnil P w t e a _ cap hu, ?_⟩
   have hx0 : a.isNone = true → len = 0 := fun ha => by
    have := hnone (by simpa using ha)
    omega
   simp only [is, VR, CR, Bool.false_eq_true, if_false, if_true]
   exact ⟨_, rfl, by simpa using hx0⟩
  ·rename_i fs xs ys hk
   split at hp
   ·rename_i ks us vs' hks hus hvs
    obtain ⟨h1, h2⟩ := hp
    have ok := hti t (.inl (by rw [hk]; simp))
    obtain ⟨hg, heq⟩ := ok.cmp ks hks
    simp only [VR] at hx hy
    obtain ⟨xa, rfl, hxa⟩ := hx
    obtain ⟨ya, rfl, hya⟩ := hy
    have e1 := plain_R hus hxa
    have e2 := plain_R hvs hya
    refine Ran.pure hrel ⟨rfl, rfl⟩ ⟨.bool _, ?_, rfl⟩
    simp only [Sem.run_bind, run_eqGuard_agg w _ t o1 o2 xa ya hg, Result.andThen_ok, run_neq_struct]
    have := heq w us vs' h1 h2
    rw [← e1, ← e2] at this
    simp only [Array.toArray_toList] at this
    rw [this, e1, e2]; simp
   ·exact hp.elim
  ·exact hp.elim
 ·exact hp.elim
theorem binOp_ran {op : BinOp} {t : TypeId} {o1 o2 : Operand} {x y : TV} {u v : Value} (hx : VR φ T w x u) (hy : VR φ T w y v) (hp : (binOpv ti op t x y).pre) :
  Ran P φ T w n (binOpv ti op t x y) (do eqGuard op t o1 o2 u v; binOp op t u v) := by
 unfold binOpv at hp ⊢
 split at hp
 ·rename_i p q
  simp only [VR, CR] at hx hy
  subst hx hy
  split at hp
  ·rename_i hk
   have ok := hti t (.inl (by rw [hk]; simp))
   have hu : P.underlying t = some .bool := by have := ok.kind; rwa [hk] at this
   refine Ran.pure hrel ⟨rfl, rfl⟩ ⟨.bool _, ?_, rfl⟩
   simp only [Sem.run_bind, eqGuard_run P _ t o1 o2 (.bool p) (.bool q) w (.inl (by simp)) (.inl (by simp)), Result.andThen_ok, binOp, run_equal_bool w t p q hu]
   rfl
  ·rename_i hk
   have ok := hti t (.inl (by rw [hk]; simp))
   have hu : P.underlying t = some .bool := by have := ok.kind; rwa [hk] at this
   refine Ran.pure hrel ⟨rfl, rfl⟩ ⟨.bool _, ?_, rfl⟩
   simp only [Sem.run_bind, eqGuard_run P _ t o1 o2 (.bool p) (.bool q) w (.inl (by simp)) (.inl (by simp)), Result.andThen_ok, binOp, run_equal_bool w t p q hu]
   rfl
  ·exact hp.elim
 ·rename_i k a k' b
  simp only [VR, CR] at hx hy
  subst hx hy
  obtain ⟨r, h1, h2⟩ := binv_int P op t k k' a b w hp
  refine Ran.pure hrel ?_ ⟨r, ?_, ?_⟩
  ·cases op <;> exact ⟨rfl, rfl⟩
  ·simp only [Sem.run_bind, eqGuard_run P op t o1 o2 (.int k a) (.int k' b) w (.inl (by simp)) (.inl (by simp)), Result.andThen_ok, h1]
  ·rw [h2]; rfl
 ·rename_i a b
  simp only [VR, CR] at hx hy
  subst hx hy
  obtain ⟨r, h1, h2⟩ := binv_str P op t a b w hp
  refine Ran.pure hrel ?_ ⟨r, ?_, ?_⟩
  ·cases op <;> exact ⟨rfl, rfl⟩
  ·simp only [Sem.run_bind, eqGuard_run P op t o1 o2 (.string a) (.string b) w (.inl (by simp)) (.inl (by simp)), Result.andThen_ok, h1]
  ·rw [h2]; rfl
 ·exact eq_ran hti hrel hx hy hp
theorem run_nil_nilIn (d : Nat) {t : TypeId} (h : ∃ ms, P.underlying t = some (.interface ms)) : (Op.equalIn (d + 1) t .nilIface .nilIface).run P w = .ok true w := by
 obtain ⟨ms, h⟩ := h
 simp [Op.equalIn, run_under' h]
theorem run_nil_nil {t : TypeId} (h : ∃ ms, P.underlying t = some (.interface ms)) : (Op.equal t .nilIface .nilIface).run P w = .ok true w := run_nil_nilIn hti hrel 9999 h
theorem binOpw_ran {op : BinOp} {t : TypeId} {o1 o2 : Operand} {x y : TV} {u v : Value} (hx : VR φ T w x u) (hy : VR φ T w y v) (hp : (binOpw ti op t o2 x y).pre) :
  Ran P φ T w n (binOpw ti op t o2 x y) (do eqGuard op t o1 o2 u v; binOp op t u v) := by
 unfold binOpw at hp ⊢
 split at hp
 ·rename_i c
  simp only [VR, CR] at hx hy
  subst hx hy
  split at hp
  ·rename_i hk
   have ok := hti t (.inl (by rw [hk]; simp))
   have hu := ok.kind; rw [hk] at hu
   refine Ran.pure hrel ⟨rfl, rfl⟩ ⟨.bool _, ?_, rfl⟩
   have hg : (eqGuard .eql t o1 (.const c) .nilIface .nilIface).run P w = .ok () w := by simp [eqGuard]
   simp only [Sem.run_bind, hg, Result.andThen_ok, binOp, run_nil_nil hti hrel hu]
   rfl
  ·rename_i hk
   have ok := hti t (.inl (by rw [hk]; simp))
   have hu := ok.kind; rw [hk] at hu
   refine Ran.pure hrel ⟨rfl, rfl⟩ ⟨.bool _, ?_, rfl⟩
   have hg : (eqGuard .neq t o1 (.const c) .nilIface .nilIface).run P w = .ok () w := by simp [eqGuard]
   simp only [Sem.run_bind, hg, Result.andThen_ok, binOp, run_nil_nil hti hrel hu]
   rfl
  ·exact hp.elim
 ·exact binOp_ran hti hrel hx hy hp
theorem unv_ran {op : UnOp} {x : TV} {u : Value} (hx : VR φ T w x u) (hp : (unv op x).pre) : Ran P φ T w n (unv op x) (Op.unary op u) := by
 unfold unv at hp ⊢
 split at hp
 ·simp only [VR, CR] at hx; subst hx
  exact Ran.pure hrel ⟨rfl, rfl⟩ ⟨_, rfl, rfl⟩
 ·simp only [VR, CR] at hx; subst hx
  exact Ran.pure hrel ⟨rfl, rfl⟩ ⟨_, rfl, rfl⟩
 ·exact hp.elim
theorem lenv_ran {t ty : TypeId} {x : TV} {u : Value} (hx : VR φ T w x u) (hp : (lenv ti t x).pre) : Ran P φ T w n (lenv ti t x) (Builtin.len_ #[t] ty #[u]) := by
 have key : ∀ d, P.underlying t = some d → (Builtin.len_ #[t] ty #[u]).run P w = (match d, u with
  | .string, .string s => (pure (goInt s.size) : Sem Value)
  | .array n _, _ => pure (goInt n)
  | .slice _, .slice _ n _ => pure (goInt n)
  | _, _ => (Builtin.len_ #[t] ty #[u])).run P w := by
  intro d hd
  split <;> first | rfl | simp [Builtin.len_, run_under' hd]
 unfold lenv at hp ⊢
 split at hp
 ·rename_i s hk
  have ok := hti t (.inl (by rw [hk]; simp))
  have hu : P.underlying t = some .string := by have := ok.kind; rwa [hk] at this
  simp only [VR, CR] at hx; subst hx
  exact Ran.pure hrel ⟨rfl, rfl⟩ ⟨_, (key _ hu).trans rfl, rfl⟩
 ·rename_i e t' xs hk
  have ok := hti t (.inl (by rw [hk]; simp))
  have hu : P.underlying t = some (.slice e) := by have := ok.kind; rwa [hk] at this
  simp only [VR, CR] at hx
  obtain ⟨a, cap, rfl, -⟩ := hx
  exact Ran.pure hrel ⟨rfl, rfl⟩ ⟨_, (key _ hu).trans rfl, rfl⟩
 ·rename_i e t' k off len hk
  have ok := hti t (.inl (by rw [hk]; simp))
  have hu : P.underlying t = some (.slice e) := by have := ok.kind; rwa [hk] at this
  simp only [VR, CR] at hx
  obtain ⟨a, cap, rfl, -⟩ := hx
  exact Ran.pure hrel ⟨rfl, rfl⟩ ⟨_, (key _ hu).trans rfl, rfl⟩
 ·rename_i e hk
  have ok := hti t (.inl (by rw [hk]; simp))
  have hu : P.underlying t = some (.slice e) := by have := ok.kind; rwa [hk] at this
  simp only [VR, CR] at hx; subst hx
  exact Ran.pure hrel ⟨rfl, rfl⟩ ⟨_, (key _ hu).trans rfl, rfl⟩
 ·rename_i m e hk
  have ok := hti t (.inl (by rw [hk]; simp))
  have hu : P.underlying t = some (.array m e) := by have := ok.kind; rwa [hk] at this
  refine Ran.pure hrel ⟨rfl, rfl⟩ ⟨_, (key _ hu).trans rfl, rfl⟩
 ·exact hp.elim
omit hti hrel in
theorem part_R {e : TypeId} (oke : TIok P e (ti e)) {cs : List TC} {vs : Array Value} (ha : All2 (CR φ T w) cs vs.toList) (off : Nat) (h1 : off + (ti e).sz ≤ cs.length) (h2 : 0 < (ti e).sz) :
  ∃ z, (Go.part e vs off).run P w = .ok z w ∧ VR φ T w (asVal (ti e).agg (ti e).sz off cs) z := by
 have hlen := ha.length
 cases hagg : (ti e).agg with
 | true =>
   refine ⟨.agg (vs.extract off (off + (ti e).sz)), ?_, ?_⟩
   ·simp only [Go.part, Sem.run_bind, oke.run_isAgg, hagg, Result.andThen_ok, if_true, oke.run_sizeOf, Sem.run_pure]
   ·simp only [asVal, if_true, VR]
    refine ⟨_, rfl, All2.of_get (by simp [part] at *; omega) fun i a b hi hb => ?_⟩
    simp only [part, List.getElem?_take, List.getElem?_drop] at hi
    split at hi
    ·obtain ⟨z, hz, hr⟩ := ha.get _ _ hi
     have : (vs.extract off (off + (ti e).sz)).toList[i]? = vs.toList[off + i]? := by
      rw [Array.getElem?_toList, Array.getElem?_toList, Array.getElem?_extract, if_pos]
      simp at hlen; omega
     rw [this, hz] at hb; cases hb; exact hr
    ·exact absurd hi (by simp)
 | false =>
   have hlt : off < cs.length := by omega
   obtain ⟨z, hz, hr⟩ := ha.get off _ (List.getElem?_eq_getElem hlt)
   refine ⟨z, ?_, ?_⟩
   ·simp only [Go.part, Sem.run_bind, oke.run_isAgg, hagg, Result.andThen_ok, Bool.false_eq_true, if_false]
    rw [Array.getElem?_toList] at hz
    simp [hz]
   ·simp only [asVal, Bool.false_eq_true, if_false, VR]
    rw [List.getD_eq_getElem?_getD, List.getElem?_eq_getElem hlt]; exact hr
theorem indexOf_ran {t : TypeId} {x ix : TV} {u v : Value} (hx : VR φ T w x u) (hix : VR φ T w ix v) (hp : (indexOf ti t x ix).pre) : Ran P φ T w n (indexOf ti t x ix) (Instr.index t u v) := by
 unfold indexOf at hp ⊢
 split at hp
 ·exact hp.elim
 rename_i i hi
 obtain ⟨ik, rfl⟩ := asI_val hti hrel hix hi
 split at hp
 ·rename_i s hk
  have ok := hti t (.inl (by rw [hk]; simp))
  have hu : P.underlying t = some .string := by have := ok.kind; rwa [hk] at this
  simp only [VR, CR] at hx; subst hx
  have hlt : i.toNat < s.size := by have := hp.1; have := hp.2; omega
  refine Ran.pure hrel ⟨rfl, rfl⟩ ⟨.int .u8 s[i.toNat].toNat, ?_, ?_⟩
  ·simp only [Instr.index, asIntOf, Sem.run_bind, Sem.run_pure, Result.andThen_ok, run_under' hu, if_pos hp.1]
   simp [hlt]
  ·simp only [ifp, VR, CR]
   congr 2
   have : s.data.getD i.toNat 0 = s[i.toNat] := by
    simp only [Array.getD_eq_getD_getElem?]
    rw [Array.getElem?_eq_getElem (by simpa using hlt)]; rfl
   rw [this]
 ·rename_i m e cs hk
  have ok := hti t (.inl (by rw [hk]; simp))
  have hu : P.underlying t = some (.array m e) := by have := ok.kind; rwa [hk] at this
  have oke := hti e (.inr hp.2.2)
  simp only [VR] at hx
  obtain ⟨vs, rfl, ha⟩ := hx
  obtain ⟨z, hz, hr⟩ := part_R oke ha _ hp.2.1 hp.2.2
  refine Ran.pure hrel ⟨rfl, rfl⟩ ⟨z, ?_, hr⟩
  simp only [Instr.index, asIntOf, Sem.run_bind, Sem.run_pure, Result.andThen_ok, run_under' hu, if_pos hp.1, oke.run_sizeOf, hz]
 ·exact hp.elim
end
end Go.Proofs.YtfmjgoeclilcnaaGreatDoor
namespace Go.Proofs.YtfmjgoeclilcnaaGreatDoor
open Go.RowKit
def OptVR (φ : Phi) (T : Tab) (w : World) : Option TV → Option Value → Prop
 | none, none => True
 | some x, some v => VR φ T w x v
 | _, _ => False
theorem flat_drop (t : ET) : ∀ (xs : List t.α) (l : Nat), (xs.drop l).flatMap t.cells = (xs.flatMap t.cells).drop (l * t.sz)
 | xs, 0 => by simp
 | [], l + 1 => by simp
 | x :: xs, l + 1 => by
   have := ET.cells_len t x
   have e : (l + 1) * t.sz = (t.cells x).length + l * t.sz := by rw [this, Nat.succ_mul]; omega
   rw [List.drop_succ_cons, flat_drop t xs l, List.flatMap_cons, e, List.drop_append]
   rw [List.drop_eq_nil_of_le (show (t.cells x).length ≤ (t.cells x).length + l * t.sz by omega), List.nil_append]
   rw [show (t.cells x).length + l * t.sz - (t.cells x).length = l * t.sz by omega]
theorem flat_take (t : ET) : ∀ (xs : List t.α) (l : Nat), (xs.take l).flatMap t.cells = (xs.flatMap t.cells).take (l * t.sz)
 | xs, 0 => by simp
 | [], l + 1 => by simp
 | x :: xs, l + 1 => by
   have := ET.cells_len t x
   have e : (l + 1) * t.sz = (t.cells x).length + l * t.sz := by rw [this, Nat.succ_mul]; omega
   rw [List.take_succ_cons, List.flatMap_cons, flat_take t xs l, List.flatMap_cons, e, List.take_append]
   rw [List.take_of_length_le (show (t.cells x).length ≤ (t.cells x).length + l * t.sz by omega)]
   rw [show (t.cells x).length + l * t.sz - (t.cells x).length = l * t.sz by omega]
theorem flat_part (t : ET) (xs : List t.α) (l m i : Nat) (v : Value) (h : (((xs.drop l).take m).flatMap t.cells)[i]? = some v) : (xs.flatMap t.cells)[l * t.sz + i]? = some v := by
 rw [flat_take, flat_drop, List.getElem?_take] at h
 split at h
 ·rwa [List.getElem?_drop] at h
 ·exact absurd h (by simp)
section
variable {P : Program} {ti : TypeId → TI} (hti : ∀ t, ((ti t).k ≠ .other ∨ 0 < (ti t).sz) → TIok P t (ti t))
variable {φ : Phi} {T : Tab} {w : World} {n : Nat} {rd : Nat → Option Obj} (hrel : Rel φ T w)
include hti hrel
theorem bounds_run {lo hi : Option TV} {low high : Option Value} {isS : Bool} {len cap : Nat} (hlo : OptVR φ T w lo low) (hhi : OptVR φ T w hi high) (hp : (lohi len lo hi).1) (hc : len ≤ cap) :
  (Instr.sliceBounds isS len cap low high none).run P w = .ok ((lohi len lo hi).2.1, (lohi len lo hi).2.2, cap) w ∧ (lohi len lo hi).2.1 ≤ (lohi len lo hi).2.2 ∧ (lohi len lo hi).2.2 ≤ len := by
 have hb : ∀ (k : IntKind) (i : Int) (y : Nat) (c : BoundsCode), 0 ≤ i → i ≤ y → (Instr.sliceBound (.int k i) y c).run P w = .ok i.toNat w := by
  intro k i y c h0 h1
  simp only [Instr.sliceBound, asIntOf, Sem.run_bind, Sem.run_pure, Result.andThen_ok, if_pos (And.intro h0 h1)]
 unfold lohi at hp ⊢
 cases lo with
 | none =>
   cases low with
   | some _ => exact hlo.elim
   | none =>
     cases hi with
     | none =>
       cases high with
       | some _ => exact hhi.elim
       | none => exact ⟨by simp [Instr.sliceBounds], by simp, by simp⟩
     | some h =>
       cases high with
       | none => exact hhi.elim
       | some hv =>
         simp only at hp ⊢
         cases hj : asI h with
         | none => rw [hj] at hp; exact hp.elim
         | some j =>
           rw [hj] at hp
           obtain ⟨k, rfl⟩ := asI_val hti hrel hhi hj
           obtain ⟨h0, h1⟩ := hp
           refine ⟨?_, by simp, by simp; omega⟩
           simp only [Instr.sliceBounds, Sem.run_bind, Sem.run_pure, Result.andThen_ok, hb k j cap _ h0 (by omega)]
 | some l =>
   cases low with
   | none => exact hlo.elim
   | some lv =>
     cases hi with
     | none =>
       cases high with
       | some _ => exact hhi.elim
       | none =>
         simp only at hp ⊢
         cases hj : asI l with
         | none => rw [hj] at hp; exact hp.elim
         | some j =>
           rw [hj] at hp
           obtain ⟨k, rfl⟩ := asI_val hti hrel hlo hj
           obtain ⟨h0, h1⟩ := hp
           refine ⟨?_, by simp; omega, by simp⟩
           simp only [Instr.sliceBounds, Sem.run_bind, Sem.run_pure, Result.andThen_ok, hb k j len _ h0 h1]
     | some h =>
       cases high with
       | none => exact hhi.elim
       | some hv =>
         simp only at hp ⊢
         cases hi' : asI l with
         | none => rw [hi'] at hp; exact hp.elim
         | some i =>
           cases hj : asI h with
           | none => rw [hi', hj] at hp; exact hp.elim
           | some j =>
             rw [hi', hj] at hp
             obtain ⟨k, rfl⟩ := asI_val hti hrel hlo hi'
             obtain ⟨k', rfl⟩ := asI_val hti hrel hhi hj
             obtain ⟨h0, h1, h2⟩ := hp
             refine ⟨?_, by simp; omega, by simp; omega⟩
             simp only [Instr.sliceBounds, Sem.run_bind, Sem.run_pure, Result.andThen_ok, hb k' j cap _ (by omega) (by omega), hb k i j.toNat _ h0 (by omega)]
theorem slicev_ran {t : TypeId} {x : TV} {v : Value} {lo hi : Option TV} {low high : Option Value} (hrd : ∀ k, k ∈ refsV true x → T k = rd k) (hx : VR φ T w x v) (hlo : OptVR φ T w lo low) (hhi : OptVR φ T w hi high)
  (hp : (slicev ti rd t x lo hi).pre) : Ran P φ T w n (slicev ti rd t x lo hi) (Instr.sliceAt t v low high none) := by
 unfold slicev at hp ⊢
 split at hp
 ·rename_i s hk
  have ok := hti t (.inl (by rw [hk]; simp))
  have hu : P.underlying t = some .string := by have := ok.kind; rwa [hk] at this
  simp only [VR, CR] at hx; subst hx
  obtain ⟨h1, h2, h3⟩ := bounds_run hti hrel (isS := false) (cap := s.size) hlo hhi hp (Nat.le_refl _)
  refine Ran.pure hrel ⟨rfl, rfl⟩ ⟨_, ?_, rfl⟩
  simp only [Instr.sliceAt, Instr.slice, Sem.run_bind, run_under' hu, Result.andThen_ok, h1, Sem.run_pure, Option.isSome_none, Bool.false_eq_true, if_false]
 ·rename_i e t' xs hk
  have ok := hti t (.inl (by rw [hk]; simp))
  have hu : P.underlying t = some (.slice e) := by have := ok.kind; rwa [hk] at this
  simp only [VR, CR] at hx
  obtain ⟨a, cap, rfl, hcap, hnone, hspot, hne⟩ := hx
  obtain ⟨hp, hsz⟩ := hp
  have oke := hti e (.inr (by rw [hsz]; exact t'.sz_pos))
  obtain ⟨h1, h2, h3⟩ := bounds_run hti hrel (isS := true) (cap := cap) hlo hhi hp hcap
  generalize (lohi xs.length lo hi).2.1 = l at *
  generalize (lohi xs.length lo hi).2.2 = h at *
  refine Ran.pure hrel ⟨rfl, rfl⟩ ⟨.slice (if cap = l then a else a.map (·.add (l * t'.sz))) (h - l) (cap - l), ?_, ?_⟩
  ·simp only [Instr.sliceAt, Instr.slice, Sem.run_bind, run_under' hu, Result.andThen_ok, h1, Sem.run_pure, oke.run_sizeOf, hsz]
  ·simp only [ifp, VR, CR]
   have hl : ((xs.drop l).take (h - l)).length = h - l := by simp; omega
   refine ⟨_, _, by rw [hl], by rw [hl]; omega, ?_, ?_, ?_⟩
   ·intro ha
    by_cases hm : cap = l
    ·omega
    ·rw [if_neg hm] at ha
     cases a with
     | none => have := hnone rfl; omega
     | some ad => simp at ha
   ·intro ad ha
    by_cases hm : cap = l
    ·rw [if_pos hm] at ha; exact hspot ad ha
    ·rw [if_neg hm] at ha
     cases a with
     | none => simp at ha
     | some ad' =>
       have := hspot ad' rfl
       simp at ha; subst ha
       unfold Addr.add; split <;> simp_all
   ·intro hnil
    have hlt : l < h := by
     rcases Nat.lt_or_ge l h with hh | hh
     ·exact hh
     ·exact absurd (List.length_eq_zero_iff.1 (by rw [hl]; omega)) hnil
    obtain ⟨b, o, rfl, him, hcs⟩ := hne (by intro h; rw [h] at h3; simp at h3; omega)
    refine ⟨b, o + l * t'.sz, ?_, him, fun i u hu => ?_⟩
    ·rw [if_neg (by omega)]; simp [add_addr]
    ·rw [Nat.add_assoc]; exact hcs _ _ (flat_part t' xs l _ i u hu)
 ·rename_i e t' k off len hk
  have hkk := hrd k (by simp [refsV, refsC])
  have ok := hti t (.inl (by rw [hk]; simp))
  have hu : P.underlying t = some (.slice e) := by have := ok.kind; rwa [hk] at this
  simp only [VR, CR] at hx
  obtain ⟨a, cap, rfl, hcap, hnone, hspot, hne⟩ := hx
  split at hp
  ·rename_i t'' xs hcs
   obtain ⟨rfl, hin, hp, hsz⟩ := hp
   try simp only [hcs]
   have oke := hti e (.inr (by rw [hsz]; exact t'.sz_pos))
   obtain ⟨h1, h2, h3⟩ := bounds_run hti hrel (isS := true) (cap := cap) hlo hhi hp hcap
   generalize (lohi len lo hi).2.1 = l at *
   generalize (lohi len lo hi).2.2 = h at *
   refine Ran.pure hrel ⟨rfl, rfl⟩ ⟨.slice (if cap = l then a else a.map (·.add (l * t'.sz))) (h - l) (cap - l), ?_, ?_⟩
   ·simp only [Instr.sliceAt, Instr.slice, Sem.run_bind, run_under' hu, Result.andThen_ok, h1, Sem.run_pure, oke.run_sizeOf, hsz]
   ·simp only [ifp, VR, CR]
    refine ⟨_, _, rfl, by omega, ?_, ?_, ?_⟩
    ·intro ha
     by_cases hm : cap = l
     ·omega
     ·rw [if_neg hm] at ha
      cases a with
      | none => have := hnone rfl; omega
      | some ad => simp at ha
    ·intro ad ha
     by_cases hm : cap = l
     ·rw [if_pos hm] at ha; exact hspot ad ha
     ·rw [if_neg hm] at ha
      cases a with
      | none => simp at ha
      | some ad' =>
        have := hspot ad' rfl
        simp at ha; subst ha
        unfold Addr.add; split <;> simp_all
    ·intro hcl
     obtain ⟨b, base, hφ, rfl, hs⟩ := hne (by omega)
     refine ⟨b, base, hφ, ?_, ?_⟩
     ·rw [if_neg (by omega)]; simp [add_addr, Nat.add_mul, Nat.add_assoc]
     ·rw [show off + l + (cap - l) = off + cap by omega]; exact hs
  ·exact hp.elim
 ·rename_i m e k off hk
  have hkk := hrd k (by simp [refsV, refsC])
  have ok := hti t (.inl (by rw [hk]; simp))
  have hu : P.underlying t = some (.array m e) := by have := ok.kind; rwa [hk] at this
  simp only [VR, CR, CapR] at hx
  obtain ⟨b, base, hφ, rfl⟩ := hx
  split at hp
  ·rename_i cs t' hcs het
   obtain ⟨hsz, hdiv, hin, hm⟩ := hp
   try simp only [hcs, het]
   have hzp := t'.sz_pos
   have hdm : off / t'.sz * t'.sz = off := Nat.div_mul_cancel (Nat.dvd_of_mod_eq_zero hdiv)
   have oke := hti e (.inr (by rw [hsz]; exact hzp))
   obtain ⟨h1, h2, h3⟩ := bounds_run (P := P) hti hrel (isS := false) (len := m) (cap := m) hlo hhi (by unfold lohi; trivial) (Nat.le_refl _)
   have e1 : (lohi m none none).2.1 = 0 := rfl
   have e2 : (lohi m none none).2.2 = m := rfl
   rw [e1, e2] at h1
   have hT := hkk.trans hcs
   obtain ⟨b', base', c, hφ', hC, hcells⟩ := hrel.obj k _ hT
   rw [hφ] at hφ'; cases hφ'
   refine Ran.pure hrel ⟨rfl, rfl⟩ ⟨.slice (some ⟨b, base + off, none⟩) m m, ?_, ?_⟩
   ·simp only [Instr.sliceAt, Sem.run_bind, run_under' hu, Result.andThen_ok, h1, Sem.run_pure, oke.run_sizeOf, hsz, Instr.sureAddr, Nat.zero_mul, Nat.sub_zero, if_neg hm, add_addr, Nat.add_zero]
   ·simp only [ifp, VR, CR]
    refine ⟨_, _, rfl, Nat.le_refl _, (fun h => by cases h), (fun ad h => by cases h; rfl), fun _ => ⟨b, base, hφ, by rw [hdm], ?_⟩⟩
    obtain ⟨e', fr, hb, hfr⟩ := hC
    have hs : sizeAt w b = c.size := by unfold sizeAt; rw [hb]
    rw [hs]
    have hmp : 0 < m * t'.sz := Nat.mul_pos (by omega) hzp
    obtain ⟨u, hu2, -⟩ := hcells (off + m * t'.sz - 1) _ (List.getElem?_eq_getElem (by omega))
    have := (Array.getElem?_eq_some_iff.1 hu2).1
    rw [Nat.add_mul, hdm]; omega
  ·exact hp.elim
 ·exact hp.elim
theorem fieldOf_ran {s : TypeId} {f : Nat} {x : TV} {v : Value} (hx : VR φ T w x v) (hp : (fieldOf ti s f x).pre) : Ran P φ T w n (fieldOf ti s f x) (Instr.field s v f) := by
 unfold fieldOf at hp ⊢
 split at hp
 ·rename_i o ft cs hf
  unfold fieldAt at hf
  split at hf
  case h_2 => exact absurd hf (by simp)
  rename_i fs hk
  have ok := hti s (.inl (by rw [hk]; simp))
  have hkind := ok.kind
  rw [hk] at hkind
  obtain ⟨fields, hu, hfs⟩ := hkind
  have hfield : ∃ fl, fields[f]? = some fl ∧ fl.offset = o ∧ fl.type = ft := by
   rw [← hfs] at hf
   simp only [List.getElem?_map, Option.map_eq_some_iff] at hf
   obtain ⟨fl, h1, h2⟩ := hf
   cases h2
   exact ⟨fl, by simpa using h1, rfl, rfl⟩
  obtain ⟨fl, hfl, rfl, rfl⟩ := hfield
  simp only [VR] at hx
  obtain ⟨vs, rfl, ha⟩ := hx
  have okf := hti fl.type (.inr hp.2)
  have hlen := ha.length
  cases hagg : (ti fl.type).agg with
  | true =>
    refine Ran.pure hrel ⟨rfl, rfl⟩ ⟨.agg (vs.extract fl.offset (fl.offset + (ti fl.type).sz)), ?_, ?_⟩
    ·simp only [Instr.field, Go.part, Sem.run_bind, run_under' hu, Result.andThen_ok, hfl, asAgg, Sem.run_pure, okf.run_isAgg, hagg, if_true, okf.run_sizeOf]
    ·simp only [ifp, asVal, hagg, if_true, VR]
     refine ⟨_, rfl, All2.of_get (by simp [part] at *; omega) fun i a b hi hb => ?_⟩
     simp only [part, List.getElem?_take, List.getElem?_drop] at hi
     split at hi
     ·obtain ⟨z, hz, hr⟩ := ha.get _ _ hi
      have : (vs.extract fl.offset (fl.offset + (ti fl.type).sz)).toList[i]? = vs.toList[fl.offset + i]? := by
       rename_i hlt _
       have h1 := hp.1
       rw [Array.getElem?_toList, Array.getElem?_toList, Array.getElem?_extract, if_pos]
       simp at hlen; omega
      rw [this, hz] at hb; cases hb; exact hr
     ·exact absurd hi (by simp)
  | false =>
    have hlt : fl.offset < cs.length := by have := hp.1; have := hp.2; omega
    obtain ⟨z, hz, hr⟩ := ha.get fl.offset _ (List.getElem?_eq_getElem hlt)
    refine Ran.pure hrel ⟨rfl, rfl⟩ ⟨z, ?_, ?_⟩
    ·simp only [Instr.field, Go.part, Sem.run_bind, run_under' hu, Result.andThen_ok, hfl, asAgg, Sem.run_pure, okf.run_isAgg, hagg, Bool.false_eq_true, if_false]
     rw [Array.getElem?_toList] at hz
     simp [hz]
    ·simp only [ifp, asVal, hagg, Bool.false_eq_true, if_false, VR]
     rw [List.getD_eq_getElem?_getD, List.getElem?_eq_getElem hlt]; exact hr
 ·exact hp.elim
end
end Go.Proofs.YtfmjgoeclilcnaaGreatDoor
