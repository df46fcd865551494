/- What is handed in to an exact law of books, as the walks see it; what stands in Go's tables. -/
import Derived.Test.YtfmeopnankeaeaaDoorTTix
import Derived.Test.YtfmeopnankeaeaaDoorTEm
import Derived.LaidMore
import Derived.Lay
set_option linter.unusedSimpArgs false
set_option linter.unusedVariables false
set_option linter.unusedSectionVars false
namespace Go.Proofs.YtfmeopnankeaeaaDoor
open Go.ChangeShapes Go.WideShapes Go.ChangeAt Go.RowKit

def EK.wide : EK → Bool
  | .int .i64 => true
  | .int _ => false
  | _ => true
theorem eks_kinds : ∀ {ks : List EK} {vs : List Value}, ks.all EK.wide = true → EksOk ks vs → kindsOk (ks.map EK.tk) vs = true
  | [], [], _, _ => rfl
  | [], _ :: _, _, h => h.elim
  | _ :: _, [], _, h => h.elim
  | k :: ks, v :: vs, hw, ⟨h, h2⟩ => by
    rw [List.all_cons, Bool.and_eq_true] at hw
    have ih := eks_kinds hw.2 h2
    cases k with
    | int q =>
      obtain ⟨n, rfl, -⟩ := h
      cases q <;> simp [EK.wide] at hw
      simpa [kindsOk, EK.tk] using ih
    | str => obtain ⟨n, rfl, -⟩ := h; simpa [kindsOk, EK.tk] using ih
    | bool => obtain ⟨n, rfl⟩ := h; simpa [kindsOk, EK.tk] using ih
theorem eks_bset {vs : List Value} (h : EksOk ET.bset.eks vs) : ∃ x, ET.bset.cells x = vs := ⟨_, bset_cells (eks_kinds (by decide) h)⟩
theorem dflt_in : inB1 ET.bset.dflt := ⟨Nat.zero_le _, Nat.zero_le _, ⟨Nat.zero_le _, Nat.zero_le _, Nat.zero_le _, Nat.zero_le _, Nat.zero_le _, Nat.zero_le _, Nat.zero_le _, Nat.zero_le _⟩⟩
theorem str_in {x : ByteArray} (h : EkOk .str (.string x)) : x.size ≤ 9223372036854775807 := by
  obtain ⟨s, hs, h2⟩ := h
  have : x = s := by injection hs
  rw [this]; exact h2
theorem bset_all {xs : List BSet} (h : ∀ i, i < xs.length → EksOk ET.bset.eks (ET.bset.cells (xs.getD i ET.bset.dflt))) (i : Nat) : inB1 (xs.getD i ET.bset.dflt) := by
  rcases Nat.lt_or_ge i xs.length with hi | hi
  · obtain ⟨h1, -, h2, x0, x1, x2, x3, x4, x5, x6, x7, -⟩ := h i hi
    exact ⟨str_in h1, str_in h2, ⟨str_in x0, str_in x1, str_in x2, str_in x3, str_in x4, str_in x5, str_in x6, str_in x7⟩⟩
  · rw [List.getD_eq_getElem?_getD, List.getElem?_eq_none hi]; exact dflt_in
section
variable {H : Type} {enc : TypeId × Value → H} {P : Program} {w : World} {base : Nat} {sp : Nat → Bool} {held : Bool} {t : TypeId} {v : Value} {d : DataW H} {ps : List MemPlace}
theorem arg_book (n : Nat) (hsh : shapeL P n t = some [.sl ET.bset.eks]) (hu : (match P.underlying t with | some (.struct _) => true | some (.array _ _) => true | _ => false) = true) (hv : Value.okWide P w .any base t v) (h : DataW.Trod enc P w 0 sp held t v d ps) :
    ∃ xs, inB xs ∧ VR0 w (.agg [.isl .bset xs]) v := by
  obtain ⟨fuel, hf⟩ := h
  obtain ⟨cs, rfl⟩ := okWide_agg base hu hv
  have hns := value_noSpot hv
  obtain ⟨x, e1, h1⟩ := lks_one (open_l n t _ hsh _ _ _ hf)
  rw [e1] at hns
  have hcs : cs.toList = [x] := by simpa [Value.cells] using e1
  obtain ⟨xs, a1, a2, a3⟩ := sl_open h1 (hns x (by simp)) rfl (by decide) fun vs h => eks_bset h
  refine ⟨xs, ⟨a2, bset_all a3⟩, ?_⟩
  simp only [VR]
  exact ⟨cs, rfl, by rw [hcs]; exact ⟨isSl_R a1, trivial⟩⟩
end
def laidU : List (String × DataW Unit) := [("unicode/utf8.acceptRanges", Rows.laid_unicode_utf8_acceptRanges), ("unicode/utf8.first", Rows.laid_unicode_utf8_first)]
set_option maxRecDepth 100000 in
/-- A world in which the tables lie. -/
theorem laidU_met (os : Os) (args : Array Value) : laidMetH Tryd.prog laidU ((World.laidAll Tryd.prog os laidU).forCall (fun _ _ => 0) ⟨#[], args, []⟩).memory := by
  rw [MakeChecks.laidMetH_plain _ _ _ (by kernel_rfl)]
  exact laidMet_laidAll _ (by kernel_rfl) (by kernel_rfl)
set_option maxRecDepth 100000 in
theorem laidU_shaped (os : Os) : World.Shaped Tryd.prog (World.laidAll Tryd.prog os laidU) := World.shaped_of_ZipB (by kernel_rfl) (by kernel_rfl)
end Go.Proofs.YtfmeopnankeaeaaDoor
