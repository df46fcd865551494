/- Functions of the exact laws: what is handed in, weighed and copied; equal ones. -/
import Derived.Test.YtfmeopnankeaeaaDoorTPx
import Derived.Test.YtfmeopnankeaeaaDoorTFc
set_option linter.unusedSimpArgs false
set_option linter.unusedVariables false
set_option linter.unusedSectionVars false
namespace Go.Proofs.YtfmeopnankeaeaaDoor
open Go.RowKit

/-- No text is longer than a machine holds. -/
structure inS (xs : List ByteArray) : Prop where
  len : xs.length ≤ 9223372036854775807
  all : ∀ i : Nat, (xs.getD i ET.str.dflt).size ≤ 9223372036854775807
structure inL (xs : List Late) : Prop where
  len : xs.length ≤ 9223372036854775807
  all : ∀ i : Nat, (xs.getD i ET.late.dflt).text.size ≤ 9223372036854775807
theorem drop_map {α : Type} (f : α → Nat) (xs : List α) (i : Nat) (d : α) (h : i < xs.length) : (xs.map f).drop i = f (xs.getD i d) :: (xs.map f).drop (i + 1) := by
  rw [List.drop_eq_getElem_cons (by simpa using h)]
  simp [h]
@[go_sem] def ctSzS : Ct := ⟨false, [[some .str]], fun args os => match args, os with
  | [.one (.isl .str xs), .one (.val (.int .i64 n))], [] => ifp (inS xs ∧ 0 ≤ n ∧ n ≤ 1048576) (vi (szW (wS xs) n))
  | _, _ => no⟩
@[go_sem] def sgSzS (xs : List ByteArray) (n : Int) (i : Nat) : Sg := ⟨[(0, .one (.isl .str xs)), (1, vi n), (5, vi i)], [], []⟩
@[go_sem] def ctSzS2 : Ct := ⟨false, [[some .str, some .str]], fun args os => match args, os with
  | [.agg [.isl .str a, .isl .str b], .one (.val (.int .i64 n))], [] => ifp (inS a ∧ inS b ∧ 0 ≤ n ∧ n ≤ 1048576) (vi (szW (wS a ++ wS b) n))
  | _, _ => no⟩
@[go_sem] def sgSzS2 (a b : List ByteArray) (n i : Int) : Sg := ⟨[(1, vi n), (2, .one (.ptr 0 0)), (5, vi i)], [some (.cells [.isl .str a, .isl .str b])], []⟩
@[go_sem] def ctSzLate : Ct := ⟨false, [], fun args os => match args, os with
  | [.agg [.val (.int .i64 x), .val (.int .i64 y), .val (.string t)], .one (.val (.int .i64 n))], [] => ifp (t.size ≤ 9223372036854775807 ∧ 0 ≤ n ∧ n ≤ 1048576) (vi (szW [t.size] n))
  | _, _ => no⟩
@[go_sem] def ctSzL : Ct := ⟨false, [[some .late]], fun args os => match args, os with
  | [.one (.isl .late xs), .one (.val (.int .i64 n))], [] => ifp (inL xs ∧ 0 ≤ n ∧ n ≤ 1048576) (vi (szW (wL xs) n))
  | _, _ => no⟩
@[go_sem] def sgSzL (xs : List Late) (n : Int) (i : Nat) : Sg := ⟨[(0, .one (.isl .late xs)), (1, vi n), (5, vi i)], [], []⟩
def Dk.wt (d : Dk) : List Nat := (wS d.a ++ wS d.b) ++ wL d.l
structure Dk.inn (d : Dk) : Prop where
  a : inS d.a
  b : inS d.b
  l : inL d.l
@[go_sem] def ctSzDisk : Ct := ⟨false, [[some .str, some .str, some .late]], fun args os => match args, os with
  | [.agg [.isl .str a, .isl .str b, .isl .late l], .one (.val (.int .i64 n))], [] => ifp ((Dk.mk a b l).inn ∧ 0 ≤ n ∧ n ≤ 1048576) (vi (szW (Dk.mk a b l).wt n))
  | _, _ => no⟩
theorem wt_small {d : Dk} {n : Int} (h : 0 ≤ szW d.wt n) : d.a.length ≤ n ∧ d.b.length ≤ n ∧ d.l.length ≤ n :=
  ⟨szW_mem h (by simp [Dk.wt, wS]), szW_mem h (by simp [Dk.wt, wS]), szW_mem h (by simp [Dk.wt, wL])⟩
end Go.Proofs.YtfmeopnankeaeaaDoor
