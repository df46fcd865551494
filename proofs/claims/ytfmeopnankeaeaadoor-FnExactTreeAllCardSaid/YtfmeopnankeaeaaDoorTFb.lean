/- Functions: disks. -/
import Derived.Test.YtfmeopnankeaeaaDoorTFa
set_option linter.unusedSimpArgs false
set_option linter.unusedVariables false
set_option linter.unusedSectionVars false
namespace Go.Proofs.YtfmeopnankeaeaaDoor
open Go.RowKit

/-- A sector of n, of two sides. -/
def sector (n : Nat) (side at_ : Int) : Bool := (decide (0 ≤ side) && decide (side ≤ 1)) && (decide (0 ≤ at_) && decide (at_ ≤ (n : Int) - 1))
@[go_sem] def ctIsSector : Ct := ⟨false, [[some .str, some .str, some .late]], fun args os => match args, os with
  | [.agg [.isl .str a, .isl .str b, .isl .late l], .one (.val (.int .i64 s)), .one (.val (.int .i64 k))], [] => ifp (a.length ≤ 4000000) (vb (sector a.length s k))
  | _, _ => no⟩
/-- A write that does not fit a disk of n sectors a side. -/
def badLate (n : Nat) (w : Late) : Bool := !(sector n w.side w.at_) || long w.text
@[go_sem] def ctBadLate : Ct := ⟨true, [], fun args os => match args, os with
  | [.agg [.val (.int .i64 s), .val (.int .i64 k), .val (.string t)], .one (.ptr 0 0)], [.cells [.isl .str a, .isl .str b, .isl .late l]] => ifp (a.length ≤ 4000000) (vb (badLate a.length ⟨s, k, t⟩))
  | _, _ => no⟩
@[go_sem] def ctCloneLate : Ct := ⟨false, [[some .late]], fun args os => match args, os with
  | [.one (.isl .late xs)], [] => ⟨xs.length ≤ 4000000, .one (.osl .late 0 0 xs.length), [], [.arr .late xs]⟩
  | _, _ => no⟩
/-- A disk. -/
structure Dk where
  a : List ByteArray
  b : List ByteArray
  l : List Late
def Dk.small (d : Dk) : Prop := d.a.length ≤ 4000000 ∧ d.b.length ≤ 4000000 ∧ d.l.length ≤ 4000000
def Dk.ok (d : Dk) : Bool :=
  (decide (1 ≤ (d.a.length : Int)) && decide ((d.a.length : Int) ≤ 120)) && decide (d.b.length = d.a.length) && !d.a.any long && !d.b.any long && decide (d.l.length ≤ 600) && !d.l.any (badLate d.a.length)
theorem diskOk_aux (a b : List ByteArray) (l : List Late) :
    ((if (if (if (!(decide (1 ≤ (a.length : Int)) && decide ((a.length : Int) ≤ 120))) = true then true else (b.length : Int) != (a.length : Int)) = true then true else a.any long) = true then true else b.any long) = true → (Dk.mk a b l).ok = false) ∧
    ((if (if (if (!(decide (1 ≤ (a.length : Int)) && decide ((a.length : Int) ≤ 120))) = true then true else (b.length : Int) != (a.length : Int)) = true then true else a.any long) = true then true else b.any long) = false →
      (if (l.length : Int) ≤ 600 then !l.any (badLate a.length) else false) = (Dk.mk a b l).ok) := by
  unfold Dk.ok
  have hl : ((l.length : Int) ≤ 600) = (l.length ≤ 600) := by apply propext; omega
  have hb : ((b.length : Int) != (a.length : Int)) = !decide (b.length = a.length) := by
    rw [Bool.eq_iff_iff]; simp; omega
  rw [hb]
  simp only [hl]
  generalize a.any long = p
  generalize b.any long = q
  generalize l.any (badLate a.length) = r
  by_cases e1 : 1 ≤ (a.length : Int) <;> by_cases e2 : (a.length : Int) ≤ 120 <;> by_cases e3 : b.length = a.length <;> by_cases e4 : l.length ≤ 600 <;> cases p <;> cases q <;> cases r <;> simp [e1, e2, e3, e4]
@[go_sem] def ctDiskOk : Ct := ⟨false, [[some .str, some .str, some .late]], fun args os => match args, os with
  | [.agg [.isl .str a, .isl .str b, .isl .late l]], [] => ifp ((Dk.mk a b l).small) (vb (Dk.mk a b l).ok)
  | _, _ => no⟩
end Go.Proofs.YtfmeopnankeaeaaDoor
