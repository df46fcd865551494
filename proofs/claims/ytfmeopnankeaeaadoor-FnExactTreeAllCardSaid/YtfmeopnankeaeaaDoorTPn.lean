/- Plain facts: what lies under a set. -/
import Derived.Test.YtfmeopnankeaeaaDoorTFtl
import Derived.Test.YtfmeopnankeaeaaDoorTFkd
set_option linter.unusedSimpArgs false
set_option linter.unusedVariables false
set_option linter.unusedSectionVars false
namespace Go.Proofs.YtfmeopnankeaeaaDoor
open Go.RowKit

/-- All that comes from a set, and then itself: n deep. -/
noncomputable def underN (xs : List BSet) : Nat → ByteArray → List ByteArray
  | 0, _ => []
  | n + 1, name => (kidsOf xs name).flatMap (underN xs n) ++ [name]
/-- Less than n deep lies under a name. -/
def Hgt (xs : List BSet) : Nat → ByteArray → Prop
  | 0, _ => False
  | n + 1, name => ∀ k ∈ kidsOf xs name, Hgt xs n k
theorem flm_congr {α β : Type} {f g : α → List β} : ∀ {l : List α}, (∀ a ∈ l, f a = g a) → l.flatMap f = l.flatMap g
  | [], _ => rfl
  | a :: l, h => by
    rw [List.flatMap_cons, List.flatMap_cons, h a (by simp), flm_congr fun b hb => h b (by simp [hb])]
theorem under_more (xs : List BSet) : ∀ (n j : Nat) (name : ByteArray), Hgt xs n name → underN xs (n + j) name = underN xs n name
  | 0, _, _, h => h.elim
  | n + 1, j, name, h => by
    rw [show n + 1 + j = (n + j) + 1 by omega]
    show (kidsOf xs name).flatMap (underN xs (n + j)) ++ [name] = (kidsOf xs name).flatMap (underN xs n) ++ [name]
    rw [flm_congr fun k hk => under_more xs n j k (h k hk)]
theorem hgt_more (xs : List BSet) : ∀ (n j : Nat) (name : ByteArray), Hgt xs n name → Hgt xs (n + j) name
  | 0, _, _, h => h.elim
  | n + 1, j, name, h => by
    rw [show n + 1 + j = (n + j) + 1 by omega]
    exact fun k hk => hgt_more xs n j k (h k hk)
theorem kids_mem {xs : List BSet} {name k : ByteArray} (h : k ∈ kidsOf xs name) : ∃ j, j < xs.length ∧ (xs.getD j ET.bset.dflt).name = k ∧ (xs.getD j ET.bset.dflt).from_ = name := by
  unfold kidsOf at h
  rw [List.mem_map] at h
  obtain ⟨s, hs, rfl⟩ := h
  rw [List.mem_filter, same_true] at hs
  obtain ⟨hs, hf⟩ := hs
  obtain ⟨j, hj, rfl⟩ := List.getElem_of_mem hs
  have e : xs.getD j ET.bset.dflt = xs[j] := by simp [hj]
  exact ⟨j, hj, by rw [e], by rw [e]; exact hf⟩
theorem there_mem {xs : List BSet} (h : BookP xs) {j : Nat} (hj : j < xs.length) : lowN xs (xs.getD j ET.bset.dflt).name = j ∧ thereB xs (xs.getD j ET.bset.dflt).name = true := by
  have hso := book_sorted h
  have e : lowN xs (xs.getD j ET.bset.dflt).name = j := lowN_eq (by omega) (fun i hi => by
    have := hso.lt i (j - i - 1) (by omega)
    rwa [show i + (j - i - 1) + 1 = j by omega] at this) (.inr (less_irrefl _))
  refine ⟨e, ?_⟩
  unfold thereB
  rw [e, Bool.and_eq_true, decide_eq_true_eq, same_true]
  exact ⟨hj, rfl⟩
theorem hgt_of {xs : List BSet} (h : BookP xs) : ∀ (n : Nat) (name : ByteArray), xs.length < n + (lineN xs xs.length name).length → Hgt xs n name
  | 0, name, hd => by
    have := line_len xs xs.length name
    omega
  | n + 1, name, hd => fun k hk => by
    obtain ⟨j, hj, h1, h2⟩ := kids_mem hk
    obtain ⟨l1, l2⟩ := there_mem h hj
    rw [h1] at l1 l2
    obtain ⟨m, hm, he⟩ := ends_next h (ends_first h k) l2
    rw [l1, h2] at he
    have e1 : lineN xs xs.length k = k :: lineN xs m name := by
      rw [hm]
      show (if thereB xs k = true then k :: lineN xs m (xs.getD (lowN xs k) ET.bset.dflt).from_ else []) = _
      rw [if_pos l2, l1, h2]
    have e2 : lineN xs xs.length name = lineN xs m name := by rw [hm]; exact line_more h m name he
    refine hgt_of h n k ?_
    rw [e1, List.length_cons, ← e2]
    omega
theorem hgt_there {xs : List BSet} (h : BookP xs) {name : ByteArray} (ht : thereB xs name = true) : Hgt xs xs.length name := by
  refine hgt_of h _ _ ?_
  obtain ⟨k, hk, -⟩ := ends_next h (ends_first h name) ht
  have e1 : lineN xs xs.length name = name :: lineN xs k (xs.getD (lowN xs name) ET.bset.dflt).from_ := by
    rw [hk]
    show (if thereB xs name = true then _ else []) = _
    rw [if_pos ht]
  rw [e1, List.length_cons]; omega
def bnd : Nat → Nat
  | 0 => 0
  | n + 1 => 6 * bnd n + 1
theorem flm_len {α β : Type} {f : α → List β} {b : Nat} : ∀ {l : List α}, (∀ a ∈ l, (f a).length ≤ b) → (l.flatMap f).length ≤ l.length * b
  | [], _ => by simp
  | a :: l, h => by
    have h1 := h a (by simp)
    have h2 := flm_len (l := l) fun c hc => h c (by simp [hc])
    rw [List.flatMap_cons, List.length_append, List.length_cons, Nat.add_mul, Nat.one_mul]
    omega
theorem under_len {xs : List BSet} (h : xs.length ≤ 6) : ∀ (n : Nat) (name : ByteArray), (underN xs n name).length ≤ bnd n
  | 0, _ => Nat.le_refl _
  | n + 1, name => by
    have h1 := flm_len (l := kidsOf xs name) fun k _ => under_len h n k
    have h2 := kids_len xs name
    have h3 : (kidsOf xs name).length * bnd n ≤ 6 * bnd n := Nat.mul_le_mul_right _ (by omega)
    show ((kidsOf xs name).flatMap (underN xs n) ++ [name]).length ≤ 6 * bnd n + 1
    rw [List.length_append, List.length_singleton]; omega
theorem bnd_le : ∀ n, n ≤ 7 → bnd n ≤ 60000
  | 0, _ => by decide
  | 1, _ => by decide
  | 2, _ => by decide
  | 3, _ => by decide
  | 4, _ => by decide
  | 5, _ => by decide
  | 6, _ => by decide
  | 7, _ => by decide
  | n + 8, h => by omega
theorem flm_take {α β : Type} (f : α → List β) (l : List α) (i : Nat) (d : α) (h : i < l.length) : (l.take (i + 1)).flatMap f = (l.take i).flatMap f ++ f (l.getD i d) := by
  have e : l.getD i d = l[i] := by simp [h]
  rw [e, List.take_add_one, List.getElem?_eq_getElem h, List.flatMap_append]
  simp
end Go.Proofs.YtfmeopnankeaeaaDoor
