/- Plain facts: what a decayed byte does to a sector, and to its sum. -/
import Derived.Test.YtfmeopnankeaeaaTFj
set_option linter.unusedSimpArgs false
set_option linter.unusedVariables false
set_option linter.unusedSectionVars false
namespace Go.Proofs.Ytfmeopnankeaeaa
open Go.RowKit

theorem turn_turn (x : UInt8) (mask : Int) (h1 : 1 ≤ mask) (h2 : mask ≤ 255) : turn (turn x mask) mask = x ∧ turn x mask ≠ x := by
  obtain ⟨m, rfl⟩ := Int.eq_ofNat_of_zero_le (show 0 ≤ mask by omega)
  have hm : m < 256 := by omega
  have hm1 : 1 ≤ m := by omega
  have hx : x.toNat < 256 := UInt8.toNat_lt x
  have key : ∀ a : Nat, a < 256 → IntKind.u8.wrap (((BitVec.ofInt 8 ((a : Nat) : Int) ^^^ BitVec.ofInt 8 (IntKind.u8.wrap (m : Int))).toNat : Nat) : Int) = ((a ^^^ m : Nat) : Int) := by
    intro a ha
    have e1 : IntKind.u8.wrap (m : Int) = m := IntWalk.u8_in _ (by omega)
    have hlt : a ^^^ m < 2 ^ 8 := Nat.xor_lt_two_pow (by omega) (by omega)
    have e2 : (BitVec.ofInt 8 ((a : Nat) : Int) ^^^ BitVec.ofInt 8 (m : Int)).toNat = a ^^^ m := by
      rw [BitVec.toNat_xor, BitVec.toNat_ofInt, BitVec.toNat_ofInt]
      congr 1 <;> omega
    rw [e1, e2]
    exact IntWalk.u8_in _ (by omega)
  have tn : ∀ y : UInt8, (turn y m).toNat = y.toNat ^^^ m := by
    intro y
    have hy : y.toNat < 256 := UInt8.toNat_lt y
    have hlt : y.toNat ^^^ m < 2 ^ 8 := Nat.xor_lt_two_pow (by omega) (by omega)
    unfold turn
    rw [key _ hy, Int.toNat_natCast, UInt8.toNat_ofNat']
    omega
  have t1 := tn x
  have t2 : (turn (turn x m) m).toNat = x.toNat := by rw [tn, t1, Nat.xor_assoc, Nat.xor_self, Nat.xor_zero]
  refine ⟨UInt8.toNat_inj.1 t2, fun h => ?_⟩
  have h3 : x.toNat ^^^ m = x.toNat := by rw [← t1, h]
  have h4 : x.toNat ^^^ (x.toNat ^^^ m) = x.toNat ^^^ x.toNat := by rw [h3]
  rw [← Nat.xor_assoc, Nat.xor_self, Nat.zero_xor] at h4
  omega
theorem rotB_size (s : ByteArray) (k mask : Int) : (rotB s k mask).size = s.size := by
  unfold rotB
  show (List.toArray _).size = _
  rw [List.size_toArray, List.length_set, Array.length_toList]; rfl
theorem rotB_rotB (s : ByteArray) (k mask : Int) (hk : 0 ≤ k) (hk2 : k < s.size) (h1 : 1 ≤ mask) (h2 : mask ≤ 255) : rotB (rotB s k mask) k mask = s := by
  obtain ⟨⟨xs⟩⟩ := s
  have hl : k.toNat < xs.length := by
    have : ((⟨⟨xs⟩⟩ : ByteArray).size : Int) = xs.length := rfl
    omega
  unfold rotB
  simp only [List.set_set]
  congr 2
  have e : (xs.set k.toNat (turn (xs.getD k.toNat ET.byte.dflt) mask)).getD k.toNat ET.byte.dflt = turn (xs.getD k.toNat ET.byte.dflt) mask := by
    rw [at_set]; rw [if_pos ⟨rfl, hl⟩]
  show xs.set k.toNat (turn ((xs.set k.toNat (turn (xs.getD k.toNat ET.byte.dflt) mask)).getD k.toNat ET.byte.dflt) mask) = xs
  rw [e, (turn_turn _ mask h1 h2).1]
  apply List.ext_getElem
  · simp
  · intro i hi1 hi2
    rw [List.getElem_set]
    split
    · rename_i h; subst h
      rw [List.getD_eq_getElem?_getD, List.getElem?_eq_getElem hl]; rfl
    · rfl

theorem sumAt_same (s t : ByteArray) (hs : s.size = t.size) : ∀ (i : Nat), (∀ j, j < i → s.data.getD j 0 = t.data.getD j 0) → sumAt s i = sumAt t i
  | 0, _ => by unfold sumAt; rw [hs]
  | i + 1, h => by
    unfold sumAt
    rw [sumAt_same s t hs i fun j hj => h j (by omega), h i (by omega)]
theorem sum_inj {a b c : Nat} (ha : a < 65521) (hb : b < 65521) (h : (257 * a + c + 1) % 65521 = (257 * b + c + 1) % 65521) : a = b := by omega
theorem sumAt_apart (s t : ByteArray) (k : Nat) (hk : sumAt s (k + 1) ≠ sumAt t (k + 1)) : ∀ (i : Nat), k < i → (∀ j, k < j → j < i → s.data.getD j 0 = t.data.getD j 0) → sumAt s i ≠ sumAt t i
  | 0, h, _ => by omega
  | i + 1, h, hj => by
    rcases Nat.lt_succ_iff_lt_or_eq.1 h with h' | rfl
    · intro he
      refine sumAt_apart s t k hk i h' (fun j h1 h2 => hj j h1 (by omega)) ?_
      unfold sumAt at he
      rw [hj i h' (by omega)] at he
      exact sum_inj (sumAt_lt s i) (sumAt_lt t i) he
    · exact hk
/-- A turned byte turns the sum. -/
theorem rotB_sum (s : ByteArray) (k mask : Int) (hk : 0 ≤ k) (hk2 : k < s.size) (h1 : 1 ≤ mask) (h2 : mask ≤ 255) : sumOf (rotB s k mask) ≠ sumOf s := by
  have hsz := rotB_size s k mask
  have hat : ∀ j, j < s.size → (rotB s k mask).data.getD j 0 = if j = k.toNat then turn (s.data.getD j 0) mask else s.data.getD j 0 := by
    intro j hj
    obtain ⟨⟨xs⟩⟩ := s
    have hj : j < xs.length := hj
    have e : ∀ (ys : List UInt8) (i : Nat), (⟨ys⟩ : Array UInt8).getD i 0 = ys.getD i 0 := by
      intro ys i
      rw [Array.getD_eq_getD_getElem?, List.getD_eq_getElem?_getD]; simp
    unfold rotB
    simp only
    show (⟨xs.set k.toNat _⟩ : Array UInt8).getD j 0 = _
    rw [e, e, at_set]
    by_cases hjk : j = k.toNat
    · subst hjk; rw [if_pos ⟨rfl, hj⟩, if_pos rfl]; rfl
    · rw [if_neg (fun h => hjk h.1.symm), if_neg hjk]
  unfold sumOf
  rw [hsz]
  refine sumAt_apart _ _ k.toNat ?_ s.size (by omega) fun j hj1 hj2 => ?_
  · have hs0 : sumAt (rotB s k mask) k.toNat = sumAt s k.toNat := sumAt_same _ _ hsz _ fun j hj => by rw [hat j (by omega), if_neg (by omega)]
    unfold sumAt
    rw [hs0, hat k.toNat (by omega), if_pos rfl]
    have hne := (turn_turn (s.data.getD k.toNat 0) mask h1 h2).2
    have l1 : (s.data.getD k.toNat 0).toNat < 256 := UInt8.toNat_lt _
    have l2 : (turn (s.data.getD k.toNat 0) mask).toNat < 256 := UInt8.toNat_lt _
    have hne' : (turn (s.data.getD k.toNat 0) mask).toNat ≠ (s.data.getD k.toNat 0).toNat := fun h => hne (UInt8.toNat_inj.1 h)
    omega
  · rw [hat j hj2, if_neg (by omega)]
end Go.Proofs.Ytfmeopnankeaeaa
