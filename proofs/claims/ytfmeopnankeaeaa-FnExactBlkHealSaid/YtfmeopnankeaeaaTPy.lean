/- Plain facts: how large the disks are that come out. -/
import Derived.Test.YtfmeopnankeaeaaTPe
set_option linter.unusedSimpArgs false
set_option linter.unusedVariables false
set_option linter.unusedSectionVars false
namespace Go.Proofs.Ytfmeopnankeaeaa
open Go.RowKit

/-- No larger than a million and a bit. -/
structure Dk.mid (d : Dk) : Prop where
  a : d.a.length ≤ 1100000
  b : d.b.length ≤ 1100000
  l : d.l.length ≤ 1100000
theorem mid_rot {d : Dk} (s i k m : Int) : (dkRot d s i k m).mid := by
  by_cases hok : d.ok = true
  · have := Dk.ok_small (dkRot_ok hok s i k m)
    exact ⟨by omega, by omega, by omega⟩
  · unfold dkRot; rw [if_neg hok]; exact ⟨Nat.zero_le _, Nat.zero_le _, Nat.zero_le _⟩
theorem mid_flush {d : Dk} (h : d.a.length ≤ 1048576 ∧ d.b.length ≤ 1048576 ∧ d.l.length ≤ 1048576) : (dkFlush d).mid := by
  obtain ⟨h1, h2, h3⟩ := flush_small d
  exact ⟨by omega, by omega, by omega⟩
theorem mid_write {d : Dk} (h : d.a.length ≤ 1048576 ∧ d.b.length ≤ 1048576 ∧ d.l.length ≤ 1048576) (s k : Int) (t : ByteArray) : (dkWrite d s k t).mid := by
  obtain ⟨h1, h2, h3⟩ := write_small d s k t
  exact ⟨by omega, by omega, by omega⟩
theorem mid_blk {d : Dk} (h : d.a.length ≤ 1048576 ∧ d.b.length ≤ 1048576 ∧ d.l.length ≤ 1048576) (k : Int) (t : ByteArray) : (blkWrite d k t).mid := by
  unfold blkWrite
  split
  · split
    · refine ⟨show d.a.length ≤ _ by omega, show d.b.length ≤ _ by omega, ?_⟩
      show (d.l ++ [_] ++ [_]).length ≤ _
      simp; omega
    · exact ⟨by omega, by omega, by omega⟩
  · exact ⟨Nat.zero_le _, Nat.zero_le _, Nat.zero_le _⟩
theorem mid_heal {d : Dk} (h : d.a.length ≤ 1048576 ∧ d.b.length ≤ 1048576 ∧ d.l.length ≤ 1048576) (p : Ptr) : (blkHeal d p).1.mid := by
  unfold blkHeal
  repeat' split
  all_goals first | exact ⟨show d.a.length ≤ _ by omega, show d.b.length ≤ _ by omega, show d.l.length ≤ _ by omega⟩ | exact ⟨Nat.zero_le _, Nat.zero_le _, Nat.zero_le _⟩ | (refine ⟨show d.a.length ≤ _ by omega, show d.b.length ≤ _ by omega, ?_⟩; show (d.l ++ [_]).length ≤ _; simp; omega)
theorem mid_fall {d : Dk} (h : d.a.length ≤ 1048576 ∧ d.b.length ≤ 1048576 ∧ d.l.length ≤ 1048576) (f : List Int) : (dkFall d f).mid := by
  obtain ⟨h1, h2, h3⟩ := dkFall_small d f
  exact ⟨by omega, by omega, by rw [h3]; simp⟩
end Go.Proofs.Ytfmeopnankeaeaa
