/- Plain facts: books in order. -/
import Derived.Test.YtfmeopnankeaeaaDoorTPl
set_option linter.unusedSimpArgs false
set_option linter.unusedVariables false
set_option linter.unusedSectionVars false
namespace Go.Proofs.YtfmeopnankeaeaaDoor
open Go.RowKit

theorem bl_irrefl : ∀ x : List UInt8, Op.bytesLess x x = false
  | [] => rfl
  | a :: x => by
    show (decide (a < a) || (a == a && Op.bytesLess x x)) = false
    rw [bl_irrefl x]; simp
theorem bl_trans : ∀ x y z : List UInt8, Op.bytesLess x y = true → Op.bytesLess y z = true → Op.bytesLess x z = true
  | [], [], z, h, _ => by simp [Op.bytesLess] at h
  | [], b :: y, [], _, h => by simp [Op.bytesLess] at h
  | [], b :: y, c :: z, _, _ => rfl
  | a :: x, [], z, h, _ => by simp [Op.bytesLess] at h
  | a :: x, b :: y, [], _, h => by simp [Op.bytesLess] at h
  | a :: x, b :: y, c :: z, h1, h2 => by
    simp only [Op.bytesLess, Bool.or_eq_true, Bool.and_eq_true, decide_eq_true_eq, beq_iff_eq] at h1 h2 ⊢
    rcases h1 with h1 | ⟨rfl, h1⟩
    · rcases h2 with h2 | ⟨rfl, h2⟩
      · exact .inl (by rw [UInt8.lt_iff_toNat_lt] at *; omega)
      · exact .inl h1
    · rcases h2 with h2 | ⟨rfl, h2⟩
      · exact .inl h2
      · exact .inr ⟨rfl, bl_trans x y z h1 h2⟩
theorem bl_total : ∀ x y : List UInt8, Op.bytesLess x y = true ∨ x = y ∨ Op.bytesLess y x = true
  | [], [] => .inr (.inl rfl)
  | [], _ :: _ => .inl rfl
  | _ :: _, [] => .inr (.inr rfl)
  | a :: x, b :: y => by
    simp only [Op.bytesLess, Bool.or_eq_true, Bool.and_eq_true, decide_eq_true_eq, beq_iff_eq]
    by_cases h : a < b
    · exact .inl (.inl h)
    · by_cases h2 : b < a
      · exact .inr (.inr (.inl h2))
      · have e : a = b := by
          rw [UInt8.lt_iff_toNat_lt] at h h2
          exact UInt8.toNat_inj.1 (by omega)
        subst e
        rcases bl_total x y with h3 | rfl | h3
        · exact .inl (.inr ⟨rfl, h3⟩)
        · exact .inr (.inl rfl)
        · exact .inr (.inr (.inr ⟨rfl, h3⟩))
theorem toList_inj {a b : ByteArray} (h : a.toList = b.toList) : a = b := by
  have := toList_same a b
  rw [h, beq_self_eq_true] at this
  exact same_true.1 this.symm
theorem less_irrefl (a : ByteArray) : lessB a a = false := bl_irrefl _
theorem less_trans {a b c : ByteArray} (h1 : lessB a b = true) (h2 : lessB b c = true) : lessB a c = true := bl_trans _ _ _ h1 h2
theorem less_total (a b : ByteArray) : lessB a b = true ∨ a = b ∨ lessB b a = true := by
  rcases bl_total a.toList b.toList with h | h | h
  · exact .inl h
  · exact .inr (.inl (toList_inj h))
  · exact .inr (.inr h)
/-- One name after the other. -/
structure Sorted (xs : List BSet) : Prop where
  next : ∀ i, 0 < i → i < xs.length → lessB (xs.getD (i - 1) ET.bset.dflt).name (xs.getD i ET.bset.dflt).name = true
theorem Sorted.lt {xs : List BSet} (h : Sorted xs) (i : Nat) : ∀ d, i + d + 1 < xs.length → lessB (xs.getD i ET.bset.dflt).name (xs.getD (i + d + 1) ET.bset.dflt).name = true
  | 0, hd => h.next (i + 1) (by omega) hd
  | d + 1, hd => less_trans (h.lt i d (by omega)) (h.next (i + (d + 1) + 1) (by omega) hd)
/-- How many names stand ahead. -/
def lowN (xs : List BSet) (name : ByteArray) : Nat := xs.findIdx fun s => !lessB s.name name
noncomputable def thereB (xs : List BSet) (name : ByteArray) : Bool := decide (lowN xs name < xs.length) && same (xs.getD (lowN xs name) ET.bset.dflt).name name
theorem lowN_le (xs : List BSet) (name : ByteArray) : lowN xs name ≤ xs.length := List.findIdx_le_length
theorem lowN_before {xs : List BSet} {name : ByteArray} {i : Nat} (h : i < lowN xs name) : lessB (xs.getD i ET.bset.dflt).name name = true := by
  have hl := lowN_le xs name
  have h1 := List.not_of_lt_findIdx (p := fun s : BSet => !lessB s.name name) h
  have h2 : xs.getD i ET.bset.dflt = xs[i]'(by omega) := by simp [show i < xs.length by omega]
  rw [h2]; simpa using h1
theorem lowN_at {xs : List BSet} {name : ByteArray} (h : lowN xs name < xs.length) : lessB (xs.getD (lowN xs name) ET.bset.dflt).name name = false := by
  have h1 := List.findIdx_getElem (p := fun s : BSet => !lessB s.name name) (w := h)
  have h2 : xs.getD (lowN xs name) ET.bset.dflt = xs[lowN xs name]'h := by simp [h]
  rw [h2]
  have h3 : (!lessB (xs[lowN xs name]'h).name name) = true := h1
  simpa using h3
theorem lowN_eq {xs : List BSet} {name : ByteArray} {i : Nat} (hi : i ≤ xs.length) (hb : ∀ j, j < i → lessB (xs.getD j ET.bset.dflt).name name = true) (hs : i = xs.length ∨ lessB (xs.getD i ET.bset.dflt).name name = false) : lowN xs name = i := by
  have hl := lowN_le xs name
  rcases Nat.lt_trichotomy (lowN xs name) i with h | h | h
  · have h1 := hb _ h
    rw [lowN_at (by omega)] at h1; cases h1
  · exact h
  · have h1 := lowN_before h
    rcases hs with hs | hs
    · omega
    · rw [hs] at h1; cases h1
/-- In order: the two ways to look a name up agree. -/
theorem at_low {xs : List BSet} (h : Sorted xs) (name : ByteArray) : (thereB xs name = true → atB xs name = lowN xs name) ∧ (thereB xs name = false → atB xs name < 0) := by
  have hl := lowN_le xs name
  constructor
  · intro ht
    unfold thereB at ht
    rw [Bool.and_eq_true, decide_eq_true_eq, same_true] at ht
    refine firstAt_some (d := ET.bset.dflt) ht.1 (fun j hj => ?_) (same_true.2 ht.2)
    rw [same_false]
    intro he
    have := lowN_before hj
    rw [he, less_irrefl] at this; cases this
  · intro ht
    have e : atB xs name = -1 := firstAt_none (d := ET.bset.dflt) fun j hj => by
      rw [same_false]
      intro he
      rcases Nat.lt_trichotomy j (lowN xs name) with hlt | hlt | hlt
      · have := lowN_before hlt
        rw [he, less_irrefl] at this; cases this
      · subst hlt
        have : thereB xs name = true := by
          unfold thereB
          rw [Bool.and_eq_true, decide_eq_true_eq, same_true]; exact ⟨hj, he⟩
        rw [this] at ht; cases ht
      · have h1 := lowN_at (xs := xs) (name := name) (by omega)
        have h2 := h.lt (lowN xs name) (j - lowN xs name - 1) (by omega)
        rw [show lowN xs name + (j - lowN xs name - 1) + 1 = j by omega, he] at h2
        rw [h2] at h1; cases h1
    rw [e]; decide
theorem pigeon : ∀ (n : Nat) (l : List Nat), l.Nodup → (∀ j ∈ l, j < n) → l.length ≤ n
  | 0, l, _, h => by
    cases l with
    | nil => exact Nat.le_refl _
    | cons a r => exact absurd (h a (by simp)) (Nat.not_lt_zero _)
  | n + 1, l, hd, h => by
    have h1 := pigeon n (l.erase n) (hd.erase n) (fun j hj => by
      have h2 := h j (List.mem_of_mem_erase hj)
      have h3 : j ≠ n := fun e => by subst e; exact hd.not_mem_erase hj
      omega)
    have h2 := List.length_erase (a := n) (l := l)
    split at h2 <;> omega
theorem leads_mono (xs : List BSet) : ∀ (n : Nat) (s : BSet), leadsN xs n s = true → leadsN xs (n + 1) s = true
  | 0, s, h => by simp [leadsN] at h
  | n + 1, s, h => by
    unfold leadsN at h ⊢
    split
    · rename_i hf; rw [if_pos hf] at h; exact h
    · rename_i hf
      rw [if_neg hf] at h
      split
      · rename_i hk; rw [if_pos hk] at h; exact h
      · rename_i hk
        rw [if_neg hk] at h
        exact leads_mono xs n _ h
theorem setOf_at (xs : List BSet) (name : ByteArray) (h : ¬ atB xs name < 0) : (atB xs name).toNat < xs.length := by
  unfold atB firstAt at h ⊢
  split at h
  · rename_i i hi
    rw [List.findIdx?_eq_some_iff_getElem] at hi
    obtain ⟨hi, -⟩ := hi
    simpa using hi
  · exact absurd (by decide) h
/-- Who needs so many rounds has so many sets ahead. -/
theorem leads_chain (xs : List BSet) : ∀ (m k : Nat), k < xs.length → leadsN xs (m + 1) (xs.getD k ET.bset.dflt) = true → leadsN xs m (xs.getD k ET.bset.dflt) = false →
    ∃ l : List Nat, l.length = m + 1 ∧ l.Nodup ∧ ∀ j ∈ l, j < xs.length ∧ leadsN xs (m + 1) (xs.getD j ET.bset.dflt) = true
  | 0, k, hk, h1, _ => ⟨[k], rfl, by simp, fun j hj => by rw [List.mem_singleton] at hj; subst hj; exact ⟨hk, h1⟩⟩
  | m + 1, k, hk, h1, h2 => by
    have h1' := h1
    have h2' := h2
    unfold leadsN at h1 h2
    by_cases hf : same (xs.getD k ET.bset.dflt).from_ ⟨#[]⟩ = true
    · rw [if_pos hf] at h1 h2
      rw [h1] at h2; cases h2
    · rw [if_neg hf] at h1 h2
      by_cases hc : atB xs (xs.getD k ET.bset.dflt).from_ < 0 ∨ (setOf xs (xs.getD k ET.bset.dflt).from_).kind = (xs.getD k ET.bset.dflt).kind
      · rw [if_pos hc] at h1; cases h1
      · rw [if_neg hc] at h1 h2
        have hj := setOf_at xs (xs.getD k ET.bset.dflt).from_ fun h => hc (.inl h)
        obtain ⟨l, l1, l2, l3⟩ := leads_chain xs m (atB xs (xs.getD k ET.bset.dflt).from_).toNat hj h1 h2
        refine ⟨k :: l, by simp [l1], ?_, fun j hj => ?_⟩
        · rw [List.nodup_cons]
          refine ⟨fun hm => ?_, l2⟩
          have := (l3 k hm).2
          rw [h2'] at this; cases this
        · rcases List.mem_cons.1 hj with rfl | hm
          · exact ⟨hk, h1'⟩
          · exact ⟨(l3 j hm).1, leads_mono xs _ _ (l3 j hm).2⟩
/-- One round more says no more. -/
theorem leads_more (xs : List BSet) (k : Nat) (hk : k < xs.length) : leadsN xs (xs.length + 1) (xs.getD k ET.bset.dflt) = leadsN xs xs.length (xs.getD k ET.bset.dflt) := by
  cases h : leadsN xs xs.length (xs.getD k ET.bset.dflt) with
  | true => exact leads_mono xs _ _ h
  | false =>
    rw [← Bool.not_eq_true]
    intro h2
    obtain ⟨l, l1, l2, l3⟩ := leads_chain xs xs.length k hk h2 h
    have := pigeon xs.length l l2 fun j hj => (l3 j hj).1
    omega
end Go.Proofs.YtfmeopnankeaeaaDoor
