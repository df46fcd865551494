/- Plain facts: a decayed disk. -/
import Derived.Test.YtfmeopnankeaeaaTPa
set_option linter.unusedSimpArgs false
set_option linter.unusedVariables false
set_option linter.unusedSectionVars false
namespace Go.Proofs.Ytfmeopnankeaeaa
open Go.RowKit

theorem Dk.eqv_self (d : Dk) : d.eqv d = true := by simp [Dk.eqv, same]
theorem Dk.rot_at {d : Dk} {s i k m : Int} (hm : d.mayRot s i k m = true) (j : Nat) :
    (d.rot s i k m).a.getD j ET.str.dflt = (if s = 0 ∧ i = j then rotB (d.a.getD j ET.str.dflt) k m else d.a.getD j ET.str.dflt) ∧
    (d.rot s i k m).b.getD j ET.str.dflt = (if s = 1 ∧ i = j ∧ j < d.b.length then rotB (d.b.getD j ET.str.dflt) k m else d.b.getD j ET.str.dflt) := by
  unfold Dk.mayRot at hm
  simp only [Bool.and_eq_true, decide_eq_true_eq] at hm
  obtain ⟨ws, w1, w2⟩ := (sector_iff _ _ _).1 hm.1.1.1.1
  obtain ⟨i, rfl⟩ := Int.eq_ofNat_of_zero_le w1
  unfold Dk.rot putW sec
  rcases ws with rfl | rfl
  · simp only [↓reduceIte, Int.toNat_natCast, at_set, Int.reduceEq, false_and, if_false, and_true, true_and]
    by_cases h : i = j
    · subst h
      rw [if_pos ⟨rfl, by omega⟩, if_pos rfl]; rfl
    · rw [if_neg (fun hh => h hh.1), if_neg (by omega)]
  · simp only [↓reduceIte, Int.toNat_natCast, at_set, Int.reduceEq, false_and, if_false, and_true, true_and]
    by_cases h : i = j
    · subst h
      by_cases h2 : i < d.b.length
      · rw [if_pos ⟨rfl, h2⟩, if_pos ⟨rfl, h2⟩]; rfl
      · rw [if_neg (fun hh => h2 hh.2), if_neg (fun hh => h2 hh.2)]
    · rw [if_neg (fun hh => h hh.1), if_neg (fun hh => h (by omega))]
theorem Dk.rot_len (d : Dk) (s i k m : Int) : (d.rot s i k m).a.length = d.a.length ∧ (d.rot s i k m).b.length = d.b.length ∧ (d.rot s i k m).l = d.l :=
  ⟨(putW_len (d.a, d.b) _).1, (putW_len (d.a, d.b) _).2, rfl⟩
theorem Dk.rot_ok {d : Dk} (h : d.ok = true) {s i k m : Int} (hm : d.mayRot s i k m = true) : (d.rot s i k m).ok = true := by
  obtain ⟨l1, l2, l3⟩ := d.rot_len s i k m
  rw [Dk.ok_iff] at h ⊢
  obtain ⟨h1, h2, h3, h4, h5, h6, h7⟩ := h
  rw [l1, l2, l3]
  have hl : ∀ s : ByteArray, long (rotB s k m) = long s := fun s => by unfold long; rw [rotB_size]
  refine ⟨h1, h2, h3, h4, fun j hj => ?_, fun j hj => ?_, h7⟩
  · rw [(Dk.rot_at hm j).1]
    split
    · rw [hl]; exact h5 j hj
    · exact h5 j hj
  · rw [(Dk.rot_at hm j).2]
    split
    · rw [hl]; exact h6 j hj
    · exact h6 j hj
theorem dkRot_ok {d : Dk} (h : d.ok = true) (s i k m : Int) : (dkRot d s i k m).ok = true := by
  unfold dkRot
  rw [if_pos h]
  split
  · rename_i hm; exact Dk.rot_ok h hm
  · exact h
theorem dkRot_len {d : Dk} (h : d.ok = true) (s i k m : Int) : (dkRot d s i k m).a.length = d.a.length ∧ (dkRot d s i k m).b.length = d.b.length ∧ (dkRot d s i k m).l = d.l := by
  unfold dkRot
  rw [if_pos h]
  split
  · exact d.rot_len s i k m
  · exact ⟨rfl, rfl, rfl⟩
theorem Dk.ext' {d e : Dk} (h1 : d.a = e.a) (h2 : d.b = e.b) (h3 : d.l = e.l) : d = e := by
  cases d; cases e; simp_all
/-- Turned once more a disk is as it was. -/
theorem dkRot_dkRot {d : Dk} (h : d.ok = true) (s i k m : Int) : dkRot (dkRot d s i k m) s i k m = d := by
  have hok := dkRot_ok h s i k m
  by_cases hm : d.mayRot s i k m = true
  · have e : dkRot d s i k m = d.rot s i k m := by unfold dkRot; rw [if_pos h, if_pos hm]
    rw [e] at hok ⊢
    obtain ⟨l1, l2, l3⟩ := d.rot_len s i k m
    obtain ⟨-, -, hab, -⟩ := (Dk.ok_iff _).1 h
    have hm0 := hm
    unfold Dk.mayRot at hm
    simp only [Bool.and_eq_true, decide_eq_true_eq] at hm
    obtain ⟨⟨⟨⟨q1, q2⟩, q3⟩, q4⟩, q5⟩ := hm
    obtain ⟨ws, w1, w2⟩ := (sector_iff _ _ _).1 q1
    have hsec : (sec ((d.rot s i k m).a, (d.rot s i k m).b) s i).size = (sec (d.a, d.b) s i).size := by
      unfold sec
      rcases ws with rfl | rfl
      · rw [if_pos rfl, if_pos rfl]
        show ((d.rot 0 i k m).a.getD i.toNat ET.str.dflt).size = _
        rw [(Dk.rot_at hm0 _).1]
        split
        · rw [rotB_size]; rfl
        · rfl
      · rw [if_neg (by decide), if_neg (by decide)]
        show ((d.rot 1 i k m).b.getD i.toNat ET.str.dflt).size = _
        rw [(Dk.rot_at hm0 _).2]
        split
        · rw [rotB_size]; rfl
        · rfl
    have hm2 : (d.rot s i k m).mayRot s i k m = true := by
      unfold Dk.mayRot
      rw [l1, hsec]
      simp only [Bool.and_eq_true, decide_eq_true_eq]
      exact ⟨⟨⟨⟨q1, q2⟩, q3⟩, q4⟩, q5⟩
    unfold dkRot
    rw [if_pos hok, if_pos hm2]
    obtain ⟨r1, r2, r3⟩ := (d.rot s i k m).rot_len s i k m
    refine Dk.ext' (list_same (d := ET.str.dflt) (by rw [r1, l1]) fun j hj => ?_) (list_same (d := ET.str.dflt) (by rw [r2, l2]) fun j hj => ?_) (by rw [r3, l3])
    · rw [(Dk.rot_at hm2 j).1, (Dk.rot_at hm0 j).1]
      by_cases hc : s = 0 ∧ i = j
      · rw [if_pos hc, if_pos hc]
        refine rotB_rotB _ k m q2 ?_ q4 q5
        obtain ⟨rfl, rfl⟩ := hc
        unfold sec at q3; rw [if_pos rfl, Int.toNat_natCast] at q3; exact q3
      · rw [if_neg hc, if_neg hc]
    · rw [(Dk.rot_at hm2 j).2, (Dk.rot_at hm0 j).2, l2]
      by_cases hc : s = 1 ∧ i = j ∧ j < d.b.length
      · rw [if_pos hc, if_pos hc]
        refine rotB_rotB _ k m q2 ?_ q4 q5
        obtain ⟨rfl, rfl, -⟩ := hc
        unfold sec at q3; rw [if_neg (by decide), Int.toNat_natCast] at q3; exact q3
      · rw [if_neg hc, if_neg hc]
  · have e : dkRot d s i k m = d := by unfold dkRot; rw [if_pos h, if_neg hm]
    rw [e, e]
/-- A sector that is not as it was is the one that is named, and its sum is another one. -/
theorem dkRot_at {d : Dk} (h : d.ok = true) (s i k m : Int) (j : Nat) (hj : j < d.a.length) :
    ((dkRot d s i k m).a.getD j ET.str.dflt ≠ d.a.getD j ET.str.dflt → d.mayRot s i k m = true ∧ s = 0 ∧ i = j ∧ sumOf ((dkRot d s i k m).a.getD j ET.str.dflt) ≠ sumOf (d.a.getD j ET.str.dflt)) ∧
    ((dkRot d s i k m).b.getD j ET.str.dflt ≠ d.b.getD j ET.str.dflt → d.mayRot s i k m = true ∧ s = 1 ∧ i = j ∧ sumOf ((dkRot d s i k m).b.getD j ET.str.dflt) ≠ sumOf (d.b.getD j ET.str.dflt)) := by
  by_cases hm : d.mayRot s i k m = true
  · have e : dkRot d s i k m = d.rot s i k m := by unfold dkRot; rw [if_pos h, if_pos hm]
    rw [e]
    have hm0 := hm
    unfold Dk.mayRot at hm
    simp only [Bool.and_eq_true, decide_eq_true_eq] at hm
    obtain ⟨⟨⟨⟨q1, q2⟩, q3⟩, q4⟩, q5⟩ := hm
    rw [(Dk.rot_at hm0 j).1, (Dk.rot_at hm0 j).2]
    constructor
    · by_cases hc : s = 0 ∧ i = j
      · rw [if_pos hc]
        intro _
        obtain ⟨rfl, rfl⟩ := hc
        unfold sec at q3; rw [if_pos rfl, Int.toNat_natCast] at q3
        exact ⟨hm0, rfl, rfl, rotB_sum _ k m q2 q3 q4 q5⟩
      · rw [if_neg hc]; exact fun hh => absurd rfl hh
    · by_cases hc : s = 1 ∧ i = j ∧ j < d.b.length
      · rw [if_pos hc]
        intro _
        obtain ⟨rfl, rfl, -⟩ := hc
        unfold sec at q3; rw [if_neg (by decide), Int.toNat_natCast] at q3
        exact ⟨hm0, rfl, rfl, rotB_sum _ k m q2 q3 q4 q5⟩
      · rw [if_neg hc]; exact fun hh => absurd rfl hh
  · have e : dkRot d s i k m = d := by unfold dkRot; rw [if_pos h, if_neg hm]
    rw [e]
    exact ⟨fun hh => absurd rfl hh, fun hh => absurd rfl hh⟩
end Go.Proofs.Ytfmeopnankeaeaa
