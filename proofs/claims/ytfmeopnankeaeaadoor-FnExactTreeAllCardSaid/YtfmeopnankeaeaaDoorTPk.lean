/- Plain facts: names. -/
import Derived.Test.YtfmeopnankeaeaaDoorTFtrim
set_option linter.unusedSimpArgs false
set_option linter.unusedVariables false
set_option linter.unusedSectionVars false
namespace Go.Proofs.YtfmeopnankeaeaaDoor
open Go.RowKit

def isLow (b : UInt8) : Bool := decide (97 ≤ b.toNat) && decide (b.toNat ≤ 122)
/-- Is it a name: one to six small letters. -/
def nameB (s : ByteArray) : Bool := (decide (1 ≤ s.size) && decide (s.size ≤ 6)) && s.data.toList.all isLow
theorem small_low : ∀ n : Fin 256, small.data.toList.contains (UInt8.ofNat n.val) = isLow (UInt8.ofNat n.val) := by decide +kernel
theorem small_low' (b : UInt8) : small.data.toList.contains b = isLow b := by
  have h := small_low ⟨b.toNat, b.toNat_lt⟩
  simpa using h
theorem dropWhile_nil {α : Type} (p : α → Bool) : ∀ l : List α, l.dropWhile p = [] ↔ l.all p = true
  | [] => by simp
  | a :: l => by
    rw [List.dropWhile_cons, List.all_cons]
    cases h : p a
    · simp
    · simpa using dropWhile_nil p l
theorem trimmed_nil (s : ByteArray) : trimmed s = ⟨#[]⟩ ↔ s.data.toList.all isLow = true := by
  have hp : (fun b => small.data.toList.contains b) = isLow := funext small_low'
  have hsub : ∀ l : List UInt8, (l.reverse.dropWhile isLow).reverse.all isLow = true → l.all isLow = true := by
    intro l h
    rw [List.all_reverse] at h
    have h2 : l.reverse.all isLow = true := by
      rw [← List.takeWhile_append_dropWhile (p := isLow) (l := l.reverse), List.all_append, h, Bool.and_true]
      exact List.all_takeWhile
    rwa [List.all_reverse] at h2
  have hback : ∀ l : List UInt8, l.all isLow = true → l.reverse.dropWhile isLow = [] := fun l h => (dropWhile_nil _ _).2 (by rwa [List.all_reverse])
  unfold trimmed Lib.trimS Lib.trimLeftS Lib.trimRightS
  rw [hp]
  constructor
  · intro h
    have h1 : ((s.data.toList.reverse.dropWhile isLow).reverse.dropWhile isLow) = [] := by
      have h2 := congrArg (fun x : ByteArray => x.data.toList) h
      simpa using h2
    exact hsub _ ((dropWhile_nil _ _).1 h1)
  · intro h
    rw [hback _ h]
    rfl
theorem all_low (s : ByteArray) : s.data.toList.all isLow = true ↔ ∀ j, j < s.size → isLow (s.data.getD j 0) = true := by
  rw [List.all_eq_true]
  constructor
  · intro h j hj
    have hj2 : j < s.data.size := hj
    have : s.data.getD j 0 = s.data[j] := dif_pos hj2
    rw [this]
    exact h _ (by simp)
  · intro h b hb
    obtain ⟨j, hj, rfl⟩ := List.getElem_of_mem hb
    have hj2 : j < s.data.size := by simpa using hj
    have h3 := h j hj2
    rw [show s.data.getD j 0 = s.data[j] from dif_pos hj2] at h3
    simpa using h3
theorem nameB_same (s : ByteArray) : nameB s = (if 1 ≤ (s.size : Int) ∧ (s.size : Int) ≤ 6 then same (trimmed s) ⟨#[]⟩ else false) := by
  have e : same (trimmed s) ⟨#[]⟩ = s.data.toList.all isLow := by
    rw [Bool.eq_iff_iff, same_true, trimmed_nil]
  unfold nameB
  rw [e]
  by_cases h : 1 ≤ (s.size : Int) ∧ (s.size : Int) ≤ 6
  · rw [if_pos h, decide_eq_true (show 1 ≤ s.size by omega), decide_eq_true (show s.size ≤ 6 by omega)]; rfl
  · rw [if_neg h, Bool.and_eq_false_iff]
    left
    rw [Bool.and_eq_false_iff, decide_eq_false_iff_not, decide_eq_false_iff_not]
    omega
theorem nameB_false {s : ByteArray} {i : Nat} (hi : i < s.size) (h : isLow (s.data.getD i 0) = false) : nameB s = false := by
  unfold nameB
  have : s.data.toList.all isLow = false := by
    rw [← Bool.not_eq_true, all_low]
    intro h2
    rw [h2 i hi] at h; cases h
  rw [this, Bool.and_false]
theorem nameB_low {s : ByteArray} (h : ∀ j, j < s.size → isLow (s.data.getD j 0) = true) : nameB s = (if (s.size : Int) > 0 then decide ((s.size : Int) ≤ 6) else false) := by
  unfold nameB
  rw [(all_low s).2 h, Bool.and_true]
  by_cases h1 : (s.size : Int) > 0
  · rw [if_pos h1, decide_eq_true (show 1 ≤ s.size by omega), Bool.true_and, decide_eq_decide]; omega
  · rw [if_neg h1, decide_eq_false (show ¬ 1 ≤ s.size by omega)]; rfl
end Go.Proofs.YtfmeopnankeaeaaDoor
