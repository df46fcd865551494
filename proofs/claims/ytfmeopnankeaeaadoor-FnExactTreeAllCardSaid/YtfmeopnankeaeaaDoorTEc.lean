/- Functions of the exact laws: copies; marks. -/
import Derived.Test.YtfmeopnankeaeaaDoorTEb
set_option linter.unusedSimpArgs false
set_option linter.unusedVariables false
set_option linter.unusedSectionVars false
namespace Go.Proofs.YtfmeopnankeaeaaDoor
open Go.RowKit

@[go_sem] def ctToS2 : Ct := ⟨false, [[some .str, some .str]], fun args os => match args, os with
  | [.agg [.isl .str a, .isl .str b]], [] => ⟨a.length ≤ 4000000 ∧ b.length ≤ 4000000, .agg [.osl .str 0 0 a.length, .osl .str 1 0 b.length], [], [.arr .str a, .arr .str b]⟩
  | _, _ => no⟩
@[go_sem] def sgTo0 (a b : List ByteArray) : Sg := ⟨[(1, .one (.ptr 0 0)), (2, .one (.ptr 1 0)), (3, .one (.ptr 2 0)), (4, vi 0)], [some (.cells [.isl .str a, .isl .str b]), some (.cells [.val (.slice none 0 0), .val (.slice none 0 0)]), some (.cells [.val (.slice none 0 0), .val (.slice none 0 0)])], []⟩
@[go_sem] def sgTo1 (a b : List ByteArray) : Sg := ⟨[(1, .one (.ptr 0 0)), (2, .one (.ptr 1 0)), (3, .one (.ptr 2 0)), (4, vi 1)], [some (.cells [.isl .str a, .isl .str b]), some (.cells [.val (.slice none 0 0), .val (.slice none 0 0)]), some (.cells [.osl .str 3 0 a.length, .val (.slice none 0 0)]), some (.arr .str a)], []⟩
@[go_sem] def sgTo2 (a b : List ByteArray) : Sg := ⟨[(1, .one (.ptr 0 0)), (2, .one (.ptr 1 0)), (3, .one (.ptr 2 0)), (4, vi 2)], [some (.cells [.isl .str a, .isl .str b]), some (.cells [.val (.slice none 0 0), .val (.slice none 0 0)]), some (.cells [.osl .str 3 0 a.length, .osl .str 4 0 b.length]), some (.arr .str a), some (.arr .str b)], []⟩
@[go_sem] def ctToLate : Ct := ⟨false, [], fun args os => match args, os with
  | [.agg [.val (.int .i64 x), .val (.int .i64 y), .val (.string t)]], [] => is (.agg [.val (.int .i64 x), .val (.int .i64 y), .val (.string t)])
  | _, _ => no⟩
@[go_sem] def ctToL : Ct := ⟨false, [[some .late]], fun args os => match args, os with
  | [.one (.isl .late xs)], [] => ⟨xs.length ≤ 4000000, .one (.osl .late 0 0 xs.length), [], [.arr .late xs]⟩
  | _, _ => no⟩
@[go_sem] def sgToL (xs : List Late) (i : Nat) : Sg := ⟨[(0, .one (.isl .late xs)), (3, .one (.osl .late 0 0 xs.length)), (4, vi i)], [some (.arr .late (mix xs (List.replicate xs.length ET.late.dflt) i))], []⟩
@[go_sem] def ctToDisk : Ct := ⟨false, [[some .str, some .str, some .late]], fun args os => match args, os with
  | [.agg [.isl .str a, .isl .str b, .isl .late l]], [] => ⟨(Dk.mk a b l).small, (Dk.mk a b l).v 0, [], (Dk.mk a b l).objs⟩
  | _, _ => no⟩
end Go.Proofs.YtfmeopnankeaeaaDoor
