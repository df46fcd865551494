/- Functions: disks, on. -/
import Derived.Test.YtfmeopnankeaeaaDoorTFb
set_option linter.unusedSimpArgs false
set_option linter.unusedVariables false
set_option linter.unusedSectionVars false
namespace Go.Proofs.YtfmeopnankeaeaaDoor
open Go.RowKit

/-- A disk in new memory, its three slices the objects n, n + 1, n + 2. -/
@[go_sem] def Dk.v (d : Dk) (n : Nat) : TV := .agg [.osl .str n 0 d.a.length, .osl .str (n + 1) 0 d.b.length, .osl .late (n + 2) 0 d.l.length]
@[go_sem] def Dk.objs (d : Dk) : List Obj := [.arr .str d.a, .arr .str d.b, .arr .late d.l]
@[go_sem] def ctOwn : Ct := ⟨false, [[some .str, some .str, some .late]], fun args os => match args, os with
  | [.agg [.isl .str a, .isl .str b, .isl .late l]], [] => ⟨(Dk.mk a b l).small, (Dk.mk a b l).v 0, [], (Dk.mk a b l).objs⟩
  | _, _ => no⟩
@[go_sem] noncomputable def ctEqualLate : Ct := ⟨false, [[some .late], [some .late]], fun args os => match args, os with
  | [.one (.isl .late xs), .one (.isl .late ys)], [] => ifp (xs.length ≤ 4000000) (vb (same xs ys))
  | _, _ => no⟩
@[go_sem] def sgEqualLate (xs ys : List Late) (i : Nat) : Sg := ⟨[(13, vi i), (12, vi xs.length), (0, .one (.isl .late xs)), (1, .one (.isl .late ys))], [], []⟩
noncomputable def Dk.eqv (d e : Dk) : Bool := same d.a e.a && same d.b e.b && same d.l e.l
@[go_sem] noncomputable def ctDiskSame : Ct := ⟨false, [[some .str, some .str, some .late], [some .str, some .str, some .late]], fun args os => match args, os with
  | [.agg [.isl .str a, .isl .str b, .isl .late l], .agg [.isl .str a', .isl .str b', .isl .late l']], [] => ifp (Dk.mk a b l).small (vb (Dk.eqv ⟨a, b, l⟩ ⟨a', b', l'⟩))
  | _, _ => no⟩
end Go.Proofs.YtfmeopnankeaeaaDoor
