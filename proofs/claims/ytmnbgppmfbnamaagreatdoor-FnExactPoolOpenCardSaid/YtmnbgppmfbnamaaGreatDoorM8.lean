import Derived.Test.YtmnbgppmfbnamaaGreatDoorM5
import Derived.Test.YtmnbgppmfbnamaaGreatDoorM7
set_option linter.unusedSimpArgs false
set_option linter.unusedVariables false
set_option linter.unusedSectionVars false
/- Plain facts: books in order. -/
namespace Go.Proofs.YtmnbgppmfbnamaaGreatDoor
open Go.RowKit

theorem bl_irrefl : ∀ x : List UInt8, Op.bytesLess x x = false
  | [] => rfl
  | a :: x => by
    show (decide (a < a) || (a == a && Op.bytesLess x x)) = false
    rw [bl_irrefl x]; simp
theorem bl_trans : ∀ x y z : List UInt8, Op.bytesLess x y = true → Op.bytesLess y z = true → Op.bytesLess x z = true
  | [], [], z, h, _ => by simp [Op.bytesLess] at h
  | [], b :: y, [], _, h => by simp [Op.bytesLess] at h
  | [], b :: y, c :: z, _, _ => rfl
  | a :: x, [], z, h, _ => by simp [Op.bytesLess] at h
  | a :: x, b :: y, [], _, h => by simp [Op.bytesLess] at h
  | a :: x, b :: y, c :: z, h1, h2 => by
    simp only [Op.bytesLess, Bool.or_eq_true, Bool.and_eq_true, decide_eq_true_eq, beq_iff_eq] at h1 h2 ⊢
    rcases h1 with h1 | ⟨rfl, h1⟩
    · rcases h2 with h2 | ⟨rfl, h2⟩
      · exact .inl (by rw [UInt8.lt_iff_toNat_lt] at *; omega)
      · exact .inl h1
    · rcases h2 with h2 | ⟨rfl, h2⟩
      · exact .inl h2
      · exact .inr ⟨rfl, bl_trans x y z h1 h2⟩
theorem bl_total : ∀ x y : List UInt8, Op.bytesLess x y = true ∨ x = y ∨ Op.bytesLess y x = true
  | [], [] => .inr (.inl rfl)
  | [], _ :: _ => .inl rfl
  | _ :: _, [] => .inr (.inr rfl)
  | a :: x, b :: y => by
    simp only [Op.bytesLess, Bool.or_eq_true, Bool.and_eq_true, decide_eq_true_eq, beq_iff_eq]
    by_cases h : a < b
    · exact .inl (.inl h)
    · by_cases h2 : b < a
      · exact .inr (.inr (.inl h2))
      · have e : a = b := by
          rw [UInt8.lt_iff_toNat_lt] at h h2
          exact UInt8.toNat_inj.1 (by omega)
        subst e
        rcases bl_total x y with h3 | rfl | h3
        · exact .inl (.inr ⟨rfl, h3⟩)
        · exact .inr (.inl rfl)
        · exact .inr (.inr (.inr ⟨rfl, h3⟩))
theorem toList_inj {a b : ByteArray} (h : a.toList = b.toList) : a = b := by
  have := toList_same a b
  rw [h, beq_self_eq_true] at this
  exact same_true.1 this.symm
theorem less_irrefl (a : ByteArray) : lessB a a = false := bl_irrefl _
theorem less_trans {a b c : ByteArray} (h1 : lessB a b = true) (h2 : lessB b c = true) : lessB a c = true := bl_trans _ _ _ h1 h2
theorem less_total (a b : ByteArray) : lessB a b = true ∨ a = b ∨ lessB b a = true := by
  rcases bl_total a.toList b.toList with h | h | h
  · exact .inl h
  · exact .inr (.inl (toList_inj h))
  · exact .inr (.inr h)
/-- One name after the other. -/
structure Sorted (xs : List BSet) : Prop where
  next : ∀ i, 0 < i → i < xs.length → lessB (xs.getD (i - 1) ET.bset.dflt).name (xs.getD i ET.bset.dflt).name = true
theorem Sorted.lt {xs : List BSet} (h : Sorted xs) (i : Nat) : ∀ d, i + d + 1 < xs.length → lessB (xs.getD i ET.bset.dflt).name (xs.getD (i + d + 1) ET.bset.dflt).name = true
  | 0, hd => h.next (i + 1) (by omega) hd
  | d + 1, hd => less_trans (h.lt i d (by omega)) (h.next (i + (d + 1) + 1) (by omega) hd)
/-- How many names stand ahead. -/
def lowN (xs : List BSet) (name : ByteArray) : Nat := xs.findIdx fun s => !lessB s.name name
noncomputable def thereB (xs : List BSet) (name : ByteArray) : Bool := decide (lowN xs name < xs.length) && same (xs.getD (lowN xs name) ET.bset.dflt).name name
theorem lowN_le (xs : List BSet) (name : ByteArray) : lowN xs name ≤ xs.length := List.findIdx_le_length
theorem lowN_before {xs : List BSet} {name : ByteArray} {i : Nat} (h : i < lowN xs name) : lessB (xs.getD i ET.bset.dflt).name name = true := by
  have hl := lowN_le xs name
  have h1 := List.not_of_lt_findIdx (p := fun s : BSet => !lessB s.name name) h
  have h2 : xs.getD i ET.bset.dflt = xs[i]'(by omega) := by simp [show i < xs.length by omega]
  rw [h2]; simpa using h1
theorem lowN_at {xs : List BSet} {name : ByteArray} (h : lowN xs name < xs.length) : lessB (xs.getD (lowN xs name) ET.bset.dflt).name name = false := by
  have h1 := List.findIdx_getElem (p := fun s : BSet => !lessB s.name name) (w := h)
  have h2 : xs.getD (lowN xs name) ET.bset.dflt = xs[lowN xs name]'h := by simp [h]
  rw [h2]
  have h3 : (!lessB (xs[lowN xs name]'h).name name) = true := h1
  simpa using h3
theorem lowN_eq {xs : List BSet} {name : ByteArray} {i : Nat} (hi : i ≤ xs.length) (hb : ∀ j, j < i → lessB (xs.getD j ET.bset.dflt).name name = true) (hs : i = xs.length ∨ lessB (xs.getD i ET.bset.dflt).name name = false) : lowN xs name = i := by
  have hl := lowN_le xs name
  rcases Nat.lt_trichotomy (lowN xs name) i with h | h | h
  · have h1 := hb _ h
    rw [lowN_at (by omega)] at h1; cases h1
  · exact h
  · have h1 := lowN_before h
    rcases hs with hs | hs
    · omega
    · rw [hs] at h1; cases h1
/-- In order: the two ways to look a name up agree. -/
theorem at_low {xs : List BSet} (h : Sorted xs) (name : ByteArray) : (thereB xs name = true → atB xs name = lowN xs name) ∧ (thereB xs name = false → atB xs name < 0) := by
  have hl := lowN_le xs name
  constructor
  · intro ht
    unfold thereB at ht
    rw [Bool.and_eq_true, decide_eq_true_eq, same_true] at ht
    refine firstAt_some (d := ET.bset.dflt) ht.1 (fun j hj => ?_) (same_true.2 ht.2)
    rw [same_false]
    intro he
    have := lowN_before hj
    rw [he, less_irrefl] at this; cases this
  · intro ht
    have e : atB xs name = -1 := firstAt_none (d := ET.bset.dflt) fun j hj => by
      rw [same_false]
      intro he
      rcases Nat.lt_trichotomy j (lowN xs name) with hlt | hlt | hlt
      · have := lowN_before hlt
        rw [he, less_irrefl] at this; cases this
      · subst hlt
        have : thereB xs name = true := by
          unfold thereB
          rw [Bool.and_eq_true, decide_eq_true_eq, same_true]; exact ⟨hj, he⟩
        rw [this] at ht; cases ht
      · have h1 := lowN_at (xs := xs) (name := name) (by omega)
        have h2 := h.lt (lowN xs name) (j - lowN xs name - 1) (by omega)
        rw [show lowN xs name + (j - lowN xs name - 1) + 1 = j by omega, he] at h2
        rw [h2] at h1; cases h1
    rw [e]; decide
theorem pigeon : ∀ (n : Nat) (l : List Nat), l.Nodup → (∀ j ∈ l, j < n) → l.length ≤ n
  | 0, l, _, h => by
    cases l with
    | nil => exact Nat.le_refl _
    | cons a r => exact absurd (h a (by simp)) (Nat.not_lt_zero _)
  | n + 1, l, hd, h => by
    have h1 := pigeon n (l.erase n) (hd.erase n) (fun j hj => by
      have h2 := h j (List.mem_of_mem_erase hj)
      have h3 : j ≠ n := fun e => by subst e; exact hd.not_mem_erase hj
      omega)
    have h2 := List.length_erase (a := n) (l := l)
    split at h2 <;> omega
theorem leads_mono (xs : List BSet) : ∀ (n : Nat) (s : BSet), leadsN xs n s = true → leadsN xs (n + 1) s = true
  | 0, s, h => by simp [leadsN] at h
  | n + 1, s, h => by
    unfold leadsN at h ⊢
    split
    · rename_i hf; rw [if_pos hf] at h; exact h
    · rename_i hf
      rw [if_neg hf] at h
      split
      · rename_i hk; rw [if_pos hk] at h; exact h
      · rename_i hk
        rw [if_neg hk] at h
        exact leads_mono xs n _ h
theorem setOf_at (xs : List BSet) (name : ByteArray) (h : ¬ atB xs name < 0) : (atB xs name).toNat < xs.length := by
  unfold atB firstAt at h ⊢
  split at h
  · rename_i i hi
    rw [List.findIdx?_eq_some_iff_getElem] at hi
    obtain ⟨hi, -⟩ := hi
    simpa using hi
  · exact absurd (by decide) h
/-- Who needs so many rounds has so many sets ahead. -/
theorem leads_chain (xs : List BSet) : ∀ (m k : Nat), k < xs.length → leadsN xs (m + 1) (xs.getD k ET.bset.dflt) = true → leadsN xs m (xs.getD k ET.bset.dflt) = false →
    ∃ l : List Nat, l.length = m + 1 ∧ l.Nodup ∧ ∀ j ∈ l, j < xs.length ∧ leadsN xs (m + 1) (xs.getD j ET.bset.dflt) = true
  | 0, k, hk, h1, _ => ⟨[k], rfl, by simp, fun j hj => by rw [List.mem_singleton] at hj; subst hj; exact ⟨hk, h1⟩⟩
  | m + 1, k, hk, h1, h2 => by
    have h1' := h1
    have h2' := h2
    unfold leadsN at h1 h2
    by_cases hf : same (xs.getD k ET.bset.dflt).from_ ⟨#[]⟩ = true
    · rw [if_pos hf] at h1 h2
      rw [h1] at h2; cases h2
    · rw [if_neg hf] at h1 h2
      by_cases hc : atB xs (xs.getD k ET.bset.dflt).from_ < 0 ∨ (setOf xs (xs.getD k ET.bset.dflt).from_).kind = (xs.getD k ET.bset.dflt).kind
      · rw [if_pos hc] at h1; cases h1
      · rw [if_neg hc] at h1 h2
        have hj := setOf_at xs (xs.getD k ET.bset.dflt).from_ fun h => hc (.inl h)
        obtain ⟨l, l1, l2, l3⟩ := leads_chain xs m (atB xs (xs.getD k ET.bset.dflt).from_).toNat hj h1 h2
        refine ⟨k :: l, by simp [l1], ?_, fun j hj => ?_⟩
        · rw [List.nodup_cons]
          refine ⟨fun hm => ?_, l2⟩
          have := (l3 k hm).2
          rw [h2'] at this; cases this
        · rcases List.mem_cons.1 hj with rfl | hm
          · exact ⟨hk, h1'⟩
          · exact ⟨(l3 j hm).1, leads_mono xs _ _ (l3 j hm).2⟩
/-- One round more says no more. -/
theorem leads_more (xs : List BSet) (k : Nat) (hk : k < xs.length) : leadsN xs (xs.length + 1) (xs.getD k ET.bset.dflt) = leadsN xs xs.length (xs.getD k ET.bset.dflt) := by
  cases h : leadsN xs xs.length (xs.getD k ET.bset.dflt) with
  | true => exact leads_mono xs _ _ h
  | false =>
    rw [← Bool.not_eq_true]
    intro h2
    obtain ⟨l, l1, l2, l3⟩ := leads_chain xs xs.length k hk h2 h
    have := pigeon xs.length l l2 fun j hj => (l3 j hj).1
    omega
theorem there_lt {xs : List BSet} {name : ByteArray} (h : thereB xs name = true) : lowN xs name < xs.length ∧ (xs.getD (lowN xs name) ET.bset.dflt).name = name := by
  unfold thereB at h
  rw [Bool.and_eq_true, decide_eq_true_eq, same_true] at h
  exact h
theorem book_sorted {xs : List BSet} (h : BookP xs) : Sorted xs := ⟨fun i h0 hi => (h.each i hi).less h0⟩
end Go.Proofs.YtmnbgppmfbnamaaGreatDoor
/- Functions: the reference's disks. -/
namespace Go.Proofs.YtmnbgppmfbnamaaGreatDoor
open Go.RowKit

/-- What fits a sector. -/
def fits (n : Nat) (side at_ : Int) (t : ByteArray) : Bool := (decide (0 ≤ side) && decide (side ≤ 1)) && (decide (0 ≤ at_) && decide (at_ < (n : Int))) && decide (t.size ≤ 420)
@[go_sem] def ctThere : Ct := ⟨false, [[some .str, some .str, some .late]], fun args os => match args, os with
  | [.agg [.isl .str a, .isl .str b, .isl .late l], .one (.val (.int .i64 s)), .one (.val (.int .i64 k)), .one (.val (.string t))], [] => is (vb (fits a.length s k t))
  | _, _ => no⟩
theorem s_there_e : EnterOk Tryz.prog 154 := ⟨_, Tryz.func154, rfl, by decide⟩
@[go_sem] def s_there_lv : List (List Nat) := [[1, 2, 3, 4], [8]]
@[go_sem] noncomputable def s_there_K : Known := Known.nil
set_option maxHeartbeats 8000000 in
theorem s_there : Sound Tryz.prog 154 ctThere := by
  have ke := s_there_K.env []
  have kl : Lives s_there_lv := trivial
  refine sound_intro (E := ⟨ti, s_there_K.Γ, []⟩) ke Tryz.func154 Tryz.ntmps154 rfl (rs := [.tmp 8]) rfl ?_
  intro args os hp
  unfold ctThere at hp ⊢
  dsimp only at hp ⊢
  split at hp
  · rename_i a b l s k t
    refine ⟨by simp, fun φ0 w0 => ?_⟩
    clear hp
    refine goh trivial ?_
    refine ⟨by (simp only [go_sem, ↓reduceIte, reduceCtorEq, Nat.reduceAdd, Nat.reduceLT, Nat.reduceLeDiff, Nat.reduceEqDiff]) <;> trivial, [], ?_⟩
    all_goals try simp only [go_sem, inj_r, ↓reduceIte, reduceCtorEq, Nat.reduceAdd, Nat.reduceLT, Nat.reduceLeDiff, Nat.reduceEqDiff, Int.reduceEq]
    all_goals (repeat' refine And.intro ?_ ?_) <;> try exact shut7
    unfold fits
    by_cases e1 : 0 ≤ s <;> by_cases e2 : s ≤ 1 <;> by_cases e3 : 0 ≤ k <;> by_cases e4 : k < (a.length : Int) <;> simp [e1, e2, e3, e4]
    all_goals omega
  · simp [no, ifp] at hp

theorem s_copy_e : EnterOk Tryz.prog 91 := ⟨_, Tryz.func91, rfl, by decide⟩
@[go_sem] def s_copy_lv : List (List Nat) := [[1, 2], [2]]
@[go_sem] noncomputable def s_copy_K : Known := Known.nil
set_option maxHeartbeats 8000000 in
theorem s_copy : Sound Tryz.prog 91 ctOwn := by
  have ke := s_copy_K.env []
  have kl : Lives s_copy_lv := trivial
  refine sound_intro (E := ⟨ti, s_copy_K.Γ, []⟩) ke Tryz.func91 Tryz.ntmps91 rfl (rs := [.cell 2 36]) rfl ?_
  intro args os hp
  unfold ctOwn at hp ⊢
  dsimp only at hp ⊢
  split at hp
  · rename_i a b l
    refine ⟨by simp, fun φ0 w0 => ?_⟩
    obtain ⟨h1, h2, h3⟩ : a.length ≤ 4000000 ∧ b.length ≤ 4000000 ∧ l.length ≤ 4000000 := hp
    refine goh trivial ?_
    exact finh [some 3, some 5, some 7] trivial
  · simp [no] at hp

theorem any_false {α : Type} {p : α → Bool} {xs : List α} (d : α) : xs.any p = false ↔ ∀ j, j < xs.length → p (xs.getD j d) = false := by
  rw [List.any_eq_false]
  constructor
  · intro h j hj
    simpa [List.getD_eq_getElem?_getD, List.getElem?_eq_getElem hj] using h _ (List.getElem_mem hj)
  · intro h x hx
    obtain ⟨j, hj, rfl⟩ := List.getElem_of_mem hx
    simpa [List.getD_eq_getElem?_getD, List.getElem?_eq_getElem hj] using h j hj
theorem Dk.ok_iff (d : Dk) : d.ok = true ↔ 1 ≤ d.a.length ∧ d.a.length ≤ 120 ∧ d.b.length = d.a.length ∧ d.l.length ≤ 600 ∧ (∀ j, j < d.a.length → long (d.a.getD j ET.str.dflt) = false) ∧ (∀ j, j < d.b.length → long (d.b.getD j ET.str.dflt) = false) ∧ (∀ j, j < d.l.length → badLate d.a.length (d.l.getD j ET.late.dflt) = false) := by
  unfold Dk.ok
  simp only [Bool.and_eq_true, decide_eq_true_eq, Bool.not_eq_true', any_false ET.str.dflt, any_false (α := Late) ET.late.dflt]
  constructor
  · rintro ⟨⟨⟨⟨⟨⟨h1, h2⟩, h3⟩, h4⟩, h5⟩, h6⟩, h7⟩
    exact ⟨by omega, by omega, h3, h6, h4, h5, h7⟩
  · rintro ⟨h1, h2, h3, h6, h4, h5, h7⟩
    exact ⟨⟨⟨⟨⟨⟨by omega, by omega⟩, h3⟩, h4⟩, h5⟩, h6⟩, h7⟩
theorem Dk.notOk {d : Dk} (h : d.ok = true → False) : d.ok = false := by
  cases hd : d.ok with
  | true => exact (h hd).elim
  | false => rfl
theorem fits_bad (n : Nat) (w : Late) : fits n w.side w.at_ w.text = !(badLate n w) := by
  unfold fits badLate sector long
  by_cases e1 : 0 ≤ w.side <;> by_cases e2 : w.side ≤ 1 <;> by_cases e3 : 0 ≤ w.at_ <;> simp [e1, e2, e3]
  by_cases e4 : w.at_ < (n : Int)
  · have : w.at_ ≤ (n : Int) - 1 := by omega
    by_cases e5 : w.text.size ≤ 420
    · have : ¬ 420 < w.text.size := by omega
      simp [*]
    · have : 420 < w.text.size := by omega
      simp [*]
  · have : ¬ w.at_ ≤ (n : Int) - 1 := by omega
    simp [e4, this]
@[go_sem] def sgOk1 (a b : List ByteArray) (l : List Late) (i : Nat) : Sg := ⟨[(1, .one (.ptr 0 0)), (3, vi a.length), (4, vi i)], [some (.cells [.isl .str a, .isl .str b, .isl .late l])], []⟩
@[go_sem] def sgOk2 (a b : List ByteArray) (l : List Late) (i : Nat) : Sg := ⟨[(1, .one (.ptr 0 0)), (5, vi i)], [some (.cells [.isl .str a, .isl .str b, .isl .late l])], []⟩
theorem s_specDiskOk_e : EnterOk Tryz.prog 88 := ⟨_, Tryz.func88, rfl, by decide⟩
@[go_sem] def s_specDiskOk_lv : List (List Nat) := [[1], [1, 3], [1, 3, 29], [2], [1, 3, 4], [1, 3, 4, 32], [1, 3, 4], [1, 3, 4, 52], [2], [1, 5], [1, 5, 57], [1, 5], [1, 5, 80], [2], [2]]
@[go_sem] noncomputable def s_specDiskOk_K : Known := (Known.nil).cons 154 ctThere s_there s_there_e
set_option maxHeartbeats 8000000 in
theorem s_specDiskOk : Sound Tryz.prog 88 ctDiskOk := by
  have ke := s_specDiskOk_K.env []
  have kl : Lives s_specDiskOk_lv := trivial
  refine sound_intro (E := ⟨ti, s_specDiskOk_K.Γ, []⟩) ke Tryz.func88 Tryz.ntmps88 rfl (rs := [.tmp 2]) rfl ?_
  intro args os hp
  unfold ctDiskOk at hp ⊢
  dsimp only at hp ⊢
  split at hp
  · rename_i a b l
    refine ⟨by simp, fun φ0 w0 => ?_⟩
    obtain ⟨h1, h2, h3⟩ : a.length ≤ 4000000 ∧ b.length ≤ 4000000 ∧ l.length ≤ 4000000 := hp
    refine goh trivial ?_
    refine W_cond _ (by exact rfl) (by exact trivial) ?_ ?_ <;> intro hc
    · refine goh trivial ?_
      refine ⟨by (simp only [go_sem, ↓reduceIte, reduceCtorEq, Nat.reduceAdd, Nat.reduceLT, Nat.reduceLeDiff, Nat.reduceEqDiff]) <;> trivial, [], ?_⟩
      all_goals try simp only [go_sem, inj_r, ↓reduceIte, reduceCtorEq, Nat.reduceAdd, Nat.reduceLT, Nat.reduceLeDiff, Nat.reduceEqDiff, Int.reduceEq]
      all_goals (repeat' refine And.intro ?_ ?_) <;> try exact shut7
      refine (Dk.notOk fun hok => ?_).symm
      obtain ⟨q1, q2, q3, q4, -⟩ := (Dk.ok_iff _).1 hok
      simp only at q1 q2 q3 q4
      have e1 : ¬ (a.length : Int) < 1 := by omega
      have e2 : ¬ (a.length : Int) > 120 := by omega
      have e3 : ((b.length : Int) != (a.length : Int)) = false := by simp; omega
      have e4 : ¬ (l.length : Int) > 600 := by omega
      simp [e1, e2, e3, e4] at hc
    · obtain ⟨g1, g2, g3, g4⟩ : 1 ≤ a.length ∧ a.length ≤ 120 ∧ b.length = a.length ∧ l.length ≤ 600 := by
        by_cases e1 : (a.length : Int) < 1
        · simp [e1] at hc
        · by_cases e2 : (a.length : Int) > 120
          · simp [e1, e2] at hc
          · by_cases e3 : b.length = a.length
            · by_cases e4 : (l.length : Int) > 600
              · simp [e1, e2, e3, e4] at hc
              · exact ⟨by omega, by omega, e3, by omega⟩
            · have e3' : ((b.length : Int) != (a.length : Int)) = true := by simp; omega
              simp [e1, e2, e3'] at hc
      clear hc
      refine goh trivial ?_
      refine W_le (σ' := sgOk1 a b l 0) [some 0] (by
        simp only [go_sem, inj_r, ↓reduceIte, reduceCtorEq, Nat.reduceAdd, Nat.reduceLT, Nat.reduceLeDiff, Nat.reduceEqDiff, Int.reduceEq]
        all_goals (repeat' refine And.intro ?_ ?_) <;> try exact shut7
        ) ?_
      refine W_loop (fun n σ => ∃ i : Nat, i ≤ a.length ∧ n = a.length - i ∧ (∀ j, j < i → long (a.getD j ET.str.dflt) = false ∧ long (b.getD j ET.str.dflt) = false) ∧ σ = sgOk1 a b l i) a.length ⟨0, by omega, by omega, by omega, rfl⟩ ?_
      rintro n σ ⟨i, hi, rfl, hbef, rfl⟩
      unfold sgOk1
      refine goh trivial ?_
      refine W_cnd ?_ ?_ <;> (try simp only [cnd_r]) <;> intro hlt
      · refine goh trivial ?_
        refine W_cond _ (by exact rfl) (by exact trivial) ?_ ?_ <;> intro hc
        · refine goh trivial ?_
          refine ⟨by (simp only [go_sem, ↓reduceIte, reduceCtorEq, Nat.reduceAdd, Nat.reduceLT, Nat.reduceLeDiff, Nat.reduceEqDiff]) <;> trivial, [], ?_⟩
          all_goals try simp only [go_sem, inj_r, ↓reduceIte, reduceCtorEq, Nat.reduceAdd, Nat.reduceLT, Nat.reduceLeDiff, Nat.reduceEqDiff, Int.reduceEq]
          all_goals (repeat' refine And.intro ?_ ?_) <;> try exact shut7
          refine (Dk.notOk fun hok => ?_).symm
          obtain ⟨-, -, -, -, q5, q6, -⟩ := (Dk.ok_iff _).1 hok
          have q5 := q5 i (show i < a.length by omega)
          have q6 := q6 i (show i < b.length by omega)
          simp only [long, decide_eq_false_iff_not] at q5 q6
          split at hc
          · omega
          · simp only [decide_eq_true_eq] at hc; omega
        · obtain ⟨q5, q6⟩ : long (a.getD i ET.str.dflt) = false ∧ long (b.getD i ET.str.dflt) = false := by
            simp only [long, decide_eq_false_iff_not]
            split at hc
            · cases hc
            · simp only [decide_eq_false_iff_not] at hc; exact ⟨by omega, by omega⟩
          clear hc
          refine goh trivial ?_
          refine ⟨a.length - (i + 1), [some 0], sgOk1 a b l (i + 1), by omega, ?_, i + 1, by omega, rfl, fun j hj => ?_, rfl⟩
          · exact leh trivial
          · rcases Nat.lt_succ_iff_lt_or_eq.1 hj with h | rfl
            · exact hbef j h
            · exact ⟨q5, q6⟩
      · refine goh trivial ?_
        have hi' : i = a.length := by omega
        subst hi'
        refine W_le (σ' := sgOk2 a b l 0) [some 0] (by
          simp only [go_sem, inj_r, ↓reduceIte, reduceCtorEq, Nat.reduceAdd, Nat.reduceLT, Nat.reduceLeDiff, Nat.reduceEqDiff, Int.reduceEq]
          all_goals (repeat' refine And.intro ?_ ?_) <;> try exact shut7
          ) ?_
        refine W_loop (fun n σ => ∃ i : Nat, i ≤ l.length ∧ n = l.length - i ∧ (∀ j, j < i → badLate a.length (l.getD j ET.late.dflt) = false) ∧ σ = sgOk2 a b l i) l.length ⟨0, by omega, by omega, by omega, rfl⟩ ?_
        rintro n σ ⟨i, hi, rfl, hbef2, rfl⟩
        unfold sgOk2
        refine goh trivial ?_
        refine W_cnd ?_ ?_ <;> (try simp only [cnd_r]) <;> intro hlt2
        · refine goh trivial ?_
          refine W_cond _ (by exact rfl) (by exact trivial) ?_ ?_ <;> intro hc <;> rw [fits_bad] at hc
          · refine goh trivial ?_
            refine ⟨by (simp only [go_sem, ↓reduceIte, reduceCtorEq, Nat.reduceAdd, Nat.reduceLT, Nat.reduceLeDiff, Nat.reduceEqDiff]) <;> trivial, [], ?_⟩
            all_goals try simp only [go_sem, inj_r, ↓reduceIte, reduceCtorEq, Nat.reduceAdd, Nat.reduceLT, Nat.reduceLeDiff, Nat.reduceEqDiff, Int.reduceEq]
            all_goals (repeat' refine And.intro ?_ ?_) <;> try exact shut7
            refine (Dk.notOk fun hok => ?_).symm
            obtain ⟨-, -, -, -, -, -, q7⟩ := (Dk.ok_iff _).1 hok
            have q7 := q7 i (show i < l.length by omega)
            simp only at q7
            rw [q7] at hc; cases hc
          · refine goh trivial ?_
            refine ⟨l.length - (i + 1), [some 0], sgOk2 a b l (i + 1), by omega, ?_, i + 1, by omega, rfl, fun j hj => ?_, rfl⟩
            · exact leh trivial
            · rcases Nat.lt_succ_iff_lt_or_eq.1 hj with h | rfl
              · exact hbef2 j h
              · simpa using hc
        · refine goh trivial ?_
          refine ⟨by (simp only [go_sem, ↓reduceIte, reduceCtorEq, Nat.reduceAdd, Nat.reduceLT, Nat.reduceLeDiff, Nat.reduceEqDiff]) <;> trivial, [], ?_⟩
          all_goals try simp only [go_sem, inj_r, ↓reduceIte, reduceCtorEq, Nat.reduceAdd, Nat.reduceLT, Nat.reduceLeDiff, Nat.reduceEqDiff, Int.reduceEq]
          all_goals (repeat' refine And.intro ?_ ?_) <;> try exact shut7
          exact ((Dk.ok_iff _).2 ⟨g1, g2, g3, g4, fun j hj => (hbef j hj).1, fun j hj => (hbef j (by simp only at hj; omega)).2, fun j hj => hbef2 j (by simp only at hj; omega)⟩).symm
  · simp [no, ifp] at hp
end Go.Proofs.YtmnbgppmfbnamaaGreatDoor
/- Functions: writes, flushes. -/
namespace Go.Proofs.YtmnbgppmfbnamaaGreatDoor
open Go.RowKit

def Dk.nil : Dk := ⟨[], [], []⟩
/-- May a write be appended? -/
def Dk.may (d : Dk) (s k : Int) (t : ByteArray) : Bool := fits d.a.length s k t && decide (d.l.length < 600)
def Dk.add (d : Dk) (s k : Int) (t : ByteArray) : Dk := ⟨d.a, d.b, d.l ++ [⟨s, k, t⟩]⟩
/-- A write to a disk. -/
def dkWrite (d : Dk) (s k : Int) (t : ByteArray) : Dk := if d.ok then if d.may s k t then d.add s k t else d else .nil
def dkWrites (d : Dk) (s k : Int) (t : ByteArray) : Bool := d.ok && d.may s k t
theorem Dk.ok_small {d : Dk} (h : d.ok = true) : d.a.length ≤ 120 ∧ d.b.length ≤ 120 ∧ d.l.length ≤ 600 := by
  obtain ⟨h1, h2, h3, h4, -⟩ := (Dk.ok_iff d).1 h
  omega
@[go_sem] def ctDiskWrite : Ct := ⟨false, [[some .str, some .str, some .late]], fun args os => match args, os with
  | [.agg [.isl .str a, .isl .str b, .isl .late l], .one (.val (.int .i64 s)), .one (.val (.int .i64 k)), .one (.val (.string t))], [] => ⟨(Dk.mk a b l).small, .tup [(dkWrite ⟨a, b, l⟩ s k t).v 0, vb (dkWrites ⟨a, b, l⟩ s k t)], [], (dkWrite ⟨a, b, l⟩ s k t).objs⟩
  | _, _ => no⟩
theorem s_specWrite_e : EnterOk Tryz.prog 219 := ⟨_, Tryz.func219, rfl, by decide⟩
@[go_sem] def s_specWrite_lv : List (List Nat) := [[1, 2, 3, 4, 8], [1, 2, 3, 4, 8, 13], [8, 9], [1, 2, 3, 4, 8, 10], [1, 2, 3, 8, 10, 28], [8, 9], [8, 10], [8, 9]]
@[go_sem] noncomputable def s_specWrite_K : Known := (((Known.nil).cons 88 ctDiskOk s_specDiskOk s_specDiskOk_e).cons 91 ctOwn s_copy s_copy_e).cons 154 ctThere s_there s_there_e
set_option maxHeartbeats 8000000 in
theorem s_specWrite : Sound Tryz.prog 219 ctDiskWrite := by
  have ke := s_specWrite_K.env []
  have kl : Lives s_specWrite_lv := trivial
  refine sound_intro (E := ⟨ti, s_specWrite_K.Γ, []⟩) ke Tryz.func219 Tryz.ntmps219 rfl (rs := [.cell 8 36, .tmp 9]) rfl ?_
  intro args os hp
  unfold ctDiskWrite at hp ⊢
  dsimp only at hp ⊢
  split at hp
  · rename_i a b l s k t
    refine ⟨by simp, fun φ0 w0 => ?_⟩
    obtain ⟨h1, h2, h3⟩ : a.length ≤ 4000000 ∧ b.length ≤ 4000000 ∧ l.length ≤ 4000000 := hp
    refine goh trivial ?_
    refine W_cnd ?_ ?_ <;> (try simp only [cnd_r]) <;> intro hok
    · have e1 : dkWrite ⟨a, b, l⟩ s k t = .nil := by unfold dkWrite; rw [hok]; rfl
      have e2 : dkWrites ⟨a, b, l⟩ s k t = false := by unfold dkWrites; rw [hok]; rfl
      refine goh trivial ?_
      refine ⟨by (simp only [go_sem, e1, e2, Dk.nil, ↓reduceIte, reduceCtorEq, Nat.reduceAdd, Nat.reduceLT, Nat.reduceLeDiff, Nat.reduceEqDiff]) <;> trivial, [none, none, none], ?_⟩
      all_goals try simp only [go_sem, e1, e2, Dk.nil, inj_r, ↓reduceIte, reduceCtorEq, Nat.reduceAdd, Nat.reduceLT, Nat.reduceLeDiff, Nat.reduceEqDiff, Int.reduceEq]
      all_goals (repeat' refine And.intro ?_ ?_) <;> try exact shut7
    · have e3 : a.length ≤ 120 ∧ b.length ≤ 120 ∧ l.length ≤ 600 := Dk.ok_small hok
      have e1 : dkWrite ⟨a, b, l⟩ s k t = if (Dk.mk a b l).may s k t then (Dk.mk a b l).add s k t else ⟨a, b, l⟩ := by unfold dkWrite; rw [hok]; rfl
      have e2 : dkWrites ⟨a, b, l⟩ s k t = (Dk.mk a b l).may s k t := by unfold dkWrites; rw [hok]; rfl
      refine goh trivial ?_
      refine W_cond _ (by exact rfl) (by exact trivial) ?_ ?_ <;> intro hc
      · have hm : (Dk.mk a b l).may s k t = false := by
          unfold Dk.may
          cases hf : fits a.length s k t with
          | false => rfl
          | true => rw [hf] at hc; simp at hc; simp; omega
        refine goh trivial ?_
        exact finh [some 2, some 3, some 4] (And.intro e1 (And.intro e2 hm))
      · have hm : (Dk.mk a b l).may s k t = true := by
          unfold Dk.may
          cases hf : fits a.length s k t with
          | false => rw [hf] at hc; simp at hc
          | true => rw [hf] at hc; simp at hc; simp; omega
        refine goh trivial ?_
        refine ⟨by (simp only [go_sem, e1, e2, hm, Dk.add, ↓reduceIte, reduceCtorEq, Nat.reduceAdd, Nat.reduceLT, Nat.reduceLeDiff, Nat.reduceEqDiff]) <;> trivial, [some 2, some 3, some 7], ?_⟩
        all_goals try simp only [go_sem, e1, e2, hm, Dk.add, inj_r, ↓reduceIte, reduceCtorEq, Nat.reduceAdd, Nat.reduceLT, Nat.reduceLeDiff, Nat.reduceEqDiff, Int.reduceEq]
        all_goals (repeat' refine And.intro ?_ ?_) <;> try exact shut7
  · simp [no] at hp
/-- The two sides, a write performed. -/
def putW (x : List ByteArray × List ByteArray) (w : Late) : List ByteArray × List ByteArray := if w.side = 0 then (x.1.set w.at_.toNat w.text, x.2) else (x.1, x.2.set w.at_.toNat w.text)
theorem putW_len (x : List ByteArray × List ByteArray) (w : Late) : (putW x w).1.length = x.1.length ∧ (putW x w).2.length = x.2.length := by
  unfold putW; split <;> simp
def Dk.done (d : Dk) (n : Nat) : List ByteArray × List ByteArray := (d.l.take n).foldl putW (d.a, d.b)
theorem Dk.done_zero (d : Dk) : d.done 0 = (d.a, d.b) := by simp [Dk.done]
theorem take_succ_getD {α : Type} (l : List α) (n : Nat) (d : α) (h : n < l.length) : l.take (n + 1) = l.take n ++ [l.getD n d] := by
  rw [List.take_succ_eq_append_getElem h, List.getD_eq_getElem?_getD, List.getElem?_eq_getElem h]; rfl
theorem Dk.done_succ (d : Dk) (n : Nat) (h : n < d.l.length) : d.done (n + 1) = putW (d.done n) (d.l.getD n ET.late.dflt) := by
  unfold Dk.done
  rw [take_succ_getD _ _ ET.late.dflt h, List.foldl_append]; rfl
theorem Dk.done_len (d : Dk) : ∀ n, (d.done n).1.length = d.a.length ∧ (d.done n).2.length = d.b.length := by
  intro n
  unfold Dk.done
  generalize d.l.take n = l
  have : ∀ (l : List Late) (x : List ByteArray × List ByteArray), (l.foldl putW x).1.length = x.1.length ∧ (l.foldl putW x).2.length = x.2.length := by
    intro l
    induction l with
    | nil => intro x; exact ⟨rfl, rfl⟩
    | cons w l ih => intro x; rw [List.foldl_cons, (ih _).1, (ih _).2]; exact putW_len x w
  exact this l (d.a, d.b)
/-- All writes performed. -/
def Dk.flushed (d : Dk) : Dk := ⟨(d.done d.l.length).1, (d.done d.l.length).2, []⟩
def dkFlush (d : Dk) : Dk := if d.ok then d.flushed else .nil
@[go_sem] def ctDiskFlush : Ct := ⟨false, [[some .str, some .str, some .late]], fun args os => match args, os with
  | [.agg [.isl .str a, .isl .str b, .isl .late l]], [] => ⟨(Dk.mk a b l).small, (dkFlush ⟨a, b, l⟩).v 0, [], (dkFlush ⟨a, b, l⟩).objs⟩
  | _, _ => no⟩
theorem Dk.ok_late {d : Dk} (h : d.ok = true) (i : Nat) (hi : i < d.l.length) : ((d.l.getD i ET.late.dflt).side = 0 ∨ (d.l.getD i ET.late.dflt).side = 1) ∧ 0 ≤ (d.l.getD i ET.late.dflt).at_ ∧ (d.l.getD i ET.late.dflt).at_ < d.a.length ∧ (d.l.getD i ET.late.dflt).text.size ≤ 420 := by
  obtain ⟨-, -, -, -, -, -, h7⟩ := (Dk.ok_iff d).1 h
  have := h7 i hi
  unfold badLate sector long at this
  simp only [Bool.or_eq_false_iff, Bool.not_eq_false', Bool.and_eq_true, decide_eq_true_eq, decide_eq_false_iff_not] at this
  omega
@[go_sem] def sgFlush (a b : List ByteArray) (l : List Late) (x : List ByteArray × List ByteArray) (i : Nat) : Sg := ⟨[(1, .one (.ptr 0 0)), (2, .one (.ptr 1 0)), (3, .one (.ptr 5 0)), (4, vi i)],
  [some (.cells [.isl .str a, .isl .str b, .isl .late l]), some (.cells [.val (.slice none 0 0), .val (.slice none 0 0), .val (.slice none 0 0)]), some (.arr .str x.1), some (.arr .str x.2), some (.arr .late l), some (.cells [.osl .str 2 0 x.1.length, .osl .str 3 0 x.2.length, .osl .late 4 0 l.length])], []⟩
theorem s_specFlush_e : EnterOk Tryz.prog 236 := ⟨_, Tryz.func236, rfl, by decide⟩
@[go_sem] def s_specFlush_lv : List (List Nat) := [[1, 2], [1, 2, 7], [2], [1, 2, 3], [1, 2, 3, 4], [1, 2, 3, 4, 15], [1, 2, 3, 4], [1, 2, 3, 4], [2, 3], [2]]
@[go_sem] noncomputable def s_specFlush_K : Known := ((Known.nil).cons 88 ctDiskOk s_specDiskOk s_specDiskOk_e).cons 91 ctOwn s_copy s_copy_e
set_option maxHeartbeats 8000000 in
theorem s_specFlush : Sound Tryz.prog 236 ctDiskFlush := by
  have ke := s_specFlush_K.env []
  have kl : Lives s_specFlush_lv := trivial
  refine sound_intro (E := ⟨ti, s_specFlush_K.Γ, []⟩) ke Tryz.func236 Tryz.ntmps236 rfl (rs := [.cell 2 36]) rfl ?_
  intro args os hp
  unfold ctDiskFlush at hp ⊢
  dsimp only at hp ⊢
  split at hp
  · rename_i a b l
    refine ⟨by simp, fun φ0 w0 => ?_⟩
    obtain ⟨h1, h2, h3⟩ : a.length ≤ 4000000 ∧ b.length ≤ 4000000 ∧ l.length ≤ 4000000 := hp
    refine goh trivial ?_
    refine W_cnd ?_ ?_ <;> (try simp only [cnd_r]) <;> intro hok
    · have e1 : dkFlush ⟨a, b, l⟩ = .nil := by unfold dkFlush; rw [hok]; rfl
      refine goh trivial ?_
      refine ⟨by (simp only [go_sem, e1, Dk.nil, ↓reduceIte, reduceCtorEq, Nat.reduceAdd, Nat.reduceLT, Nat.reduceLeDiff, Nat.reduceEqDiff]) <;> trivial, [none, none, none], ?_⟩
      all_goals try simp only [go_sem, e1, Dk.nil, inj_r, ↓reduceIte, reduceCtorEq, Nat.reduceAdd, Nat.reduceLT, Nat.reduceLeDiff, Nat.reduceEqDiff, Int.reduceEq]
      all_goals (repeat' refine And.intro ?_ ?_) <;> try exact shut7
    · have e1 : dkFlush ⟨a, b, l⟩ = (Dk.mk a b l).flushed := by unfold dkFlush; rw [hok]; rfl
      refine goh trivial ?_
      refine W_le (σ' := sgFlush a b l ((Dk.mk a b l).done 0) 0) [some 0, some 1, some 2, some 3, some 4, some 5] (by
        simp only [go_sem, Dk.done_zero, inj_r, ↓reduceIte, reduceCtorEq, Nat.reduceAdd, Nat.reduceLT, Nat.reduceLeDiff, Nat.reduceEqDiff, Int.reduceEq]
        all_goals (repeat' refine And.intro ?_ ?_) <;> try exact shut7
        ) ?_
      refine W_loop (fun n σ => ∃ i : Nat, i ≤ l.length ∧ n = l.length - i ∧ σ = sgFlush a b l ((Dk.mk a b l).done i) i) l.length ⟨0, by omega, by omega, rfl⟩ ?_
      rintro n σ ⟨i, hi, rfl, rfl⟩
      obtain ⟨hl1, hl2⟩ := (Dk.mk a b l).done_len i
      simp only at hl1 hl2
      unfold sgFlush
      refine goh trivial ?_
      refine W_cnd ?_ ?_ <;> (try simp only [cnd_r]) <;> intro hlt
      · have hi' : i < l.length := by omega
        obtain ⟨ws, w1, w2, w3⟩ := Dk.ok_late hok i hi'
        have hd := (Dk.mk a b l).done_succ i hi'
        obtain ⟨-, -, hab, -⟩ := (Dk.ok_iff _).1 hok
        simp only at ws w1 w2 w3 hd hab
        generalize hx : (Dk.mk a b l).done i = x at *
        generalize hw : l.getD i ET.late.dflt = w at *
        obtain ⟨s, k, t⟩ := w
        simp only at ws w1 w2 w3
        rcases ws with rfl | rfl
        all_goals
          refine goh hw ?_
          refine ⟨l.length - (i + 1), [some 0, some 1, some 2, some 3, some 4, some 5], sgFlush a b l ((Dk.mk a b l).done (i + 1)) (i + 1), by omega, ?_, i + 1, by omega, rfl, rfl⟩
          rw [hd]
          simp only [go_sem, putW, List.length_set, inj_r, ↓reduceIte, reduceCtorEq, Nat.reduceAdd, Nat.reduceLT, Nat.reduceLeDiff, Nat.reduceEqDiff, Int.reduceEq]
          all_goals (repeat' refine And.intro ?_ ?_) <;> try exact shut7
      · refine goh trivial ?_
        have : i = l.length := by omega
        subst this
        refine ⟨by (simp only [go_sem, e1, Dk.flushed, ↓reduceIte, reduceCtorEq, Nat.reduceAdd, Nat.reduceLT, Nat.reduceLeDiff, Nat.reduceEqDiff]) <;> trivial, [some 2, some 3, none], ?_⟩
        all_goals try simp only [go_sem, e1, Dk.flushed, inj_r, ↓reduceIte, reduceCtorEq, Nat.reduceAdd, Nat.reduceLT, Nat.reduceLeDiff, Nat.reduceEqDiff, Int.reduceEq]
        all_goals (repeat' refine And.intro ?_ ?_) <;> try exact shut7
  · simp [no] at hp
end Go.Proofs.YtmnbgppmfbnamaaGreatDoor
/- Functions: the reader of codes. -/
namespace Go.Proofs.YtmnbgppmfbnamaaGreatDoor
open Go.RowKit

def sumAt (s : ByteArray) : Nat → Nat
  | 0 => 1 + s.size % 997
  | i + 1 => (257 * sumAt s i + (s.data.getD i 0).toNat + 1) % 65521
theorem sumAt_lt (s : ByteArray) : ∀ i, sumAt s i < 65521
  | 0 => by unfold sumAt; omega
  | i + 1 => by unfold sumAt; omega
def sumOf (s : ByteArray) : Nat := sumAt s s.size
@[go_sem] def ctSumOf : Ct := ⟨false, [], fun args os => match args, os with
  | [.one (.val (.string s))], [] => ifp (s.size ≤ 1000000000) (vi (sumOf s))
  | _, _ => no⟩
@[go_sem] def sgSum (s : ByteArray) (i : Nat) : Sg := ⟨[(0, .one (.val (.string s))), (3, vi (sumAt s i)), (10, vi s.size), (11, vi i)], [], []⟩
theorem sum_step (s : ByteArray) (i : Nat) (hi : i < s.size) : (IntKind.i64.wrap (IntKind.i64.wrap (IntKind.i64.wrap (257 * (sumAt s i : Int)) + IntKind.i64.wrap ((s.data.getD i 0).toNat : Int)) + 1)).tmod 65521 = (sumAt s (i + 1) : Nat) := by
  have h := sumAt_lt s i
  have hb : (s.data.getD i 0).toNat < 256 := (s.data.getD i 0).toNat_lt
  rw [wrap_id (257 * (sumAt s i : Int)) (by omega) (by omega), wrap_id ((s.data.getD i 0).toNat : Int) (by omega) (by omega), wrap_id (257 * (sumAt s i : Int) + ((s.data.getD i 0).toNat : Int)) (by omega) (by omega), wrap_id (257 * (sumAt s i : Int) + ((s.data.getD i 0).toNat : Int) + 1) (by omega) (by omega)]
  rw [show (257 * (sumAt s i : Int) + ((s.data.getD i 0).toNat : Int) + 1) = ((257 * sumAt s i + (s.data.getD i 0).toNat + 1 : Nat) : Int) by omega]
  show _ = (((257 * sumAt s i + (s.data.getD i 0).toNat + 1) % 65521 : Nat) : Int)
  exact (Int.ofNat_tmod _ _).symm
theorem sum_first (s : ByteArray) (h : s.size ≤ 1000000000) : IntKind.i64.wrap (1 + ((s.size : Int)).tmod 997) = (sumAt s 0 : Nat) := by
  have : ((s.size : Int)).tmod 997 = ((s.size % 997 : Nat) : Int) := (Int.ofNat_tmod _ _).symm
  rw [this, wrap_id _ (by omega) (by omega)]
  unfold sumAt
  omega
theorem s_sumOf_e : EnterOk Tryz.prog 124 := ⟨_, Tryz.func124, rfl, by decide⟩
@[go_sem] def s_sumOf_lv : List (List Nat) := [[0], [0, 3], [0, 3, 10, 11], [0, 3, 10, 11, 12], [0, 3, 4, 10, 11], [0, 3, 10, 11], [0, 3, 10, 11], [2]]
@[go_sem] noncomputable def s_sumOf_K : Known := Known.nil
set_option maxHeartbeats 8000000 in
theorem s_sumOf : Sound Tryz.prog 124 ctSumOf := by
  have ke := s_sumOf_K.env []
  have kl : Lives s_sumOf_lv := trivial
  refine sound_intro (E := ⟨ti, s_sumOf_K.Γ, []⟩) ke Tryz.func124 Tryz.ntmps124 rfl (rs := [.tmp 2]) rfl ?_
  intro args os hp
  unfold ctSumOf at hp ⊢
  dsimp only at hp ⊢
  split at hp
  · rename_i s
    refine ⟨by simp, fun φ0 w0 => ?_⟩
    have hlen : s.size ≤ 1000000000 := hp
    clear hp
    refine goh trivial ?_
    refine W_le (σ' := sgSum s 0) [] (by
      simp only [go_sem, ↓reduceIte, reduceCtorEq, Nat.reduceAdd, Nat.reduceLT, Nat.reduceLeDiff, Nat.reduceEqDiff, TC.val.injEq, Value.int.injEq, TV.one.injEq, sum_first s hlen]
      all_goals ((repeat' apply And.intro) <;> first | rfl | trivial)) ?_
    refine W_loop (fun n σ => ∃ i : Nat, i ≤ s.size ∧ n = s.size - i ∧ σ = sgSum s i) s.size ⟨0, by omega, by omega, rfl⟩ ?_
    rintro n σ ⟨i, hi, rfl, rfl⟩
    unfold sgSum
    refine goh trivial ?_
    refine W_cnd ?_ ?_ <;> (try simp only [cnd_r]) <;> intro hlt
    · refine goh trivial ?_
      refine ⟨s.size - (i + 1), [], sgSum s (i + 1), by omega, ?_, i + 1, by omega, rfl, rfl⟩
      have hst := sum_step s i (by omega)
      simp only [go_sem, ↓reduceIte, reduceCtorEq, Nat.reduceAdd, Nat.reduceLT, Nat.reduceLeDiff, Nat.reduceEqDiff, TC.val.injEq, Value.int.injEq, TV.one.injEq]
      (repeat' apply And.intro) <;> try first | rfl | trivial | exact hst | (rw [wrap_id] <;> omega)
    · refine goh trivial ?_
      have hi' : i = s.size := by omega
      subst hi'
      exact finh [] trivial
  · simp [no, ifp] at hp

/-- An open disk. -/
def dkOpen (n : Int) : Dk := if 1 ≤ n ∧ n ≤ 120 then ⟨List.replicate n.toNat ⟨#[]⟩, List.replicate n.toNat ⟨#[]⟩, []⟩ else ⟨[], [], []⟩
@[go_sem] def ctSpecOpen : Ct := ⟨false, [], fun args os => match args, os with
  | [.one (.val (.int .i64 n))], [] => ⟨True, (dkOpen n).v 0, [], (dkOpen n).objs⟩
  | _, _ => no⟩
theorem s_specOpen_e : EnterOk Tryz.prog 115 := ⟨_, Tryz.func115, rfl, by decide⟩
@[go_sem] def s_specOpen_lv : List (List Nat) := [[0, 2], [0, 2, 8], [2], [2]]
@[go_sem] noncomputable def s_specOpen_K : Known := Known.nil
set_option maxHeartbeats 8000000 in
theorem s_specOpen : Sound Tryz.prog 115 ctSpecOpen := by
  have ke := s_specOpen_K.env []
  have kl : Lives s_specOpen_lv := trivial
  refine sound_intro (E := ⟨ti, s_specOpen_K.Γ, []⟩) ke Tryz.func115 Tryz.ntmps115 rfl (rs := [.cell 2 36]) rfl ?_
  intro args os hp
  unfold ctSpecOpen at hp ⊢
  dsimp only at hp ⊢
  split at hp
  · rename_i n
    refine ⟨by simp, fun φ0 w0 => ?_⟩
    clear hp
    refine goh trivial ?_
    refine W_cond _ (by exact rfl) (by exact trivial) ?_ ?_ <;> intro hc
    · refine goh trivial ?_
      have hd : dkOpen n = ⟨[], [], []⟩ := by
        unfold dkOpen
        rw [if_neg]
        split at hc
        · omega
        · simp only [decide_eq_true_eq] at hc; omega
      rw [hd]
      exact finh [none, none, none] trivial
    · obtain ⟨n1, n2⟩ : 1 ≤ n ∧ n ≤ 120 := by
        split at hc
        · cases hc
        · simp only [decide_eq_false_iff_not] at hc; exact ⟨by omega, by omega⟩
      have hd : dkOpen n = ⟨List.replicate n.toNat ⟨#[]⟩, List.replicate n.toNat ⟨#[]⟩, []⟩ := by
        unfold dkOpen
        rw [if_pos ⟨n1, n2⟩]
      clear hc
      refine goh trivial ?_
      rw [hd]
      refine ⟨by (simp only [go_sem, ↓reduceIte, reduceCtorEq, Nat.reduceAdd, Nat.reduceLT, Nat.reduceLeDiff, Nat.reduceEqDiff]) <;> trivial, [some 1, some 2, none], ?_⟩
      all_goals try simp only [go_sem, inj_r, ↓reduceIte, reduceCtorEq, Nat.reduceAdd, Nat.reduceLT, Nat.reduceLeDiff, Nat.reduceEqDiff, Int.reduceEq]
      all_goals (repeat' refine And.intro ?_ ?_) <;> try exact shut7
      all_goals simp only [List.length_replicate]
  · simp [no] at hp

/-- A text of which half is written over another one. -/
def torn (old now : ByteArray) : ByteArray := if now.size / 2 < old.size then now.extract 0 (now.size / 2) ++ old.extract (now.size / 2) old.size else now.extract 0 (now.size / 2)
@[go_sem] def ctTorn : Ct := ⟨false, [], fun args os => match args, os with
  | [.one (.val (.string old)), .one (.val (.string now))], [] => ifp (old.size ≤ 1000000000 ∧ now.size ≤ 1000000000) (vs (torn old now))
  | _, _ => no⟩
end Go.Proofs.YtmnbgppmfbnamaaGreatDoor
/- Functions: falls. -/
namespace Go.Proofs.YtmnbgppmfbnamaaGreatDoor
open Go.RowKit

theorem at_set {α : Type} (xs : List α) (i j : Nat) (v d : α) : (xs.set i v).getD j d = if i = j ∧ j < xs.length then v else xs.getD j d := by
  simp only [List.getD_eq_getElem?_getD, List.getElem?_set]
  by_cases h : i = j
  · subst h
    by_cases h2 : i < xs.length
    · simp [h2]
    · simp [h2]
  · simp [h]
abbrev Two := List ByteArray × List ByteArray
/-- A sector. -/
def sec (x : Two) (s k : Int) : ByteArray := if s = 0 then ET.str.at x.1 k.toNat else ET.str.at x.2 k.toNat
def Sm (x : Two) : Prop := ∀ j : Nat, (x.1.getD j ET.str.dflt).size ≤ 420 ∧ (x.2.getD j ET.str.dflt).size ≤ 420
theorem Sm.sec {x : Two} (h : Sm x) (s k : Int) : (sec x s k).size ≤ 420 := by
  unfold Go.Proofs.YtmnbgppmfbnamaaGreatDoor.sec; split
  · exact (h _).1
  · exact (h _).2
theorem Sm.put {x : Two} (h : Sm x) (w : Late) (hw : w.text.size ≤ 420) : Sm (putW x w) := by
  intro j
  unfold putW
  split
  · refine ⟨?_, (h j).2⟩
    simp only [at_set]
    split
    · exact hw
    · exact (h j).1
  · refine ⟨(h j).1, ?_⟩
    simp only [at_set]
    split
    · exact hw
    · exact (h j).2
theorem torn_size (old now : ByteArray) (h1 : old.size ≤ 420) (h2 : now.size ≤ 420) : (torn old now).size ≤ 420 := by
  unfold torn
  split
  · rw [ByteArray.size_append, ByteArray.size_extract, ByteArray.size_extract]; omega
  · rw [ByteArray.size_extract]; omega
/-- What becomes of a write. -/
def fell (f : Int) (x : Two) (w : Late) : Two := if f = 1 then putW x w else if f = 2 then putW x ⟨w.side, w.at_, torn (sec x w.side w.at_) w.text⟩ else x
theorem fell_len (f : Int) (x : Two) (w : Late) : (fell f x w).1.length = x.1.length ∧ (fell f x w).2.length = x.2.length := by
  unfold fell; split
  · exact putW_len x w
  · split
    · exact putW_len x _
    · exact ⟨rfl, rfl⟩
theorem Sm.fell {x : Two} (h : Sm x) (f : Int) (w : Late) (hw : w.text.size ≤ 420) : Sm (fell f x w) := by
  unfold Go.Proofs.YtmnbgppmfbnamaaGreatDoor.fell; split
  · exact h.put w hw
  · split
    · exact h.put _ (torn_size _ _ (h.sec _ _) hw)
    · exact h
def Dk.fallN (d : Dk) (fate : List Int) : Nat → Two
  | 0 => (d.a, d.b)
  | n + 1 => fell (ET.int.at fate n) (d.fallN fate n) (ET.late.at d.l n)
theorem Dk.fallN_len (d : Dk) (fate : List Int) : ∀ n, (d.fallN fate n).1.length = d.a.length ∧ (d.fallN fate n).2.length = d.b.length
  | 0 => ⟨rfl, rfl⟩
  | n + 1 => by
    have h := fell_len (ET.int.at fate n) (d.fallN fate n) (ET.late.at d.l n)
    have h' := d.fallN_len fate n
    unfold Dk.fallN; rw [h.1, h.2]; exact h'
theorem Dk.ok_sm {d : Dk} (h : d.ok = true) : Sm (d.a, d.b) := by
  obtain ⟨-, -, -, -, h5, h6, -⟩ := (Dk.ok_iff d).1 h
  intro j
  have e : ∀ xs : List ByteArray, (∀ j, j < xs.length → long (xs.getD j ET.str.dflt) = false) → (xs.getD j ET.str.dflt).size ≤ 420 := by
    intro xs hx
    rcases Nat.lt_or_ge j xs.length with hj | hj
    · have := hx j hj; unfold long at this; simp only [decide_eq_false_iff_not] at this; omega
    · rw [List.getD_eq_getElem?_getD, List.getElem?_eq_none hj]; exact Nat.zero_le _
  exact ⟨e d.a h5, e d.b h6⟩
theorem Dk.fallN_sm {d : Dk} (h : d.ok = true) (fate : List Int) : ∀ n, n ≤ d.l.length → Sm (d.fallN fate n)
  | 0, _ => d.ok_sm h
  | n + 1, hn => (d.fallN_sm h fate n (by omega)).fell _ _ (Dk.ok_late h n (by omega)).2.2.2
def Dk.fallen (d : Dk) (fate : List Int) : Dk := ⟨(d.fallN fate (min d.l.length fate.length)).1, (d.fallN fate (min d.l.length fate.length)).2, []⟩
def dkFall (d : Dk) (fate : List Int) : Dk := if d.ok then d.fallen fate else .nil
@[go_sem] def ctDiskFall : Ct := ⟨false, [[some .str, some .str, some .late], [some .int]], fun args os => match args, os with
  | [.agg [.isl .str a, .isl .str b, .isl .late l], .one (.isl .int fate)], [] => ⟨(Dk.mk a b l).small ∧ fate.length ≤ 4000000, (dkFall ⟨a, b, l⟩ fate).v 0, [], (dkFall ⟨a, b, l⟩ fate).objs⟩
  | _, _ => no⟩
theorem extr_id (s : ByteArray) : s.extract 0 s.size = s := ByteArray.extract_zero_size
@[go_sem] def sgFall (a b : List ByteArray) (l : List Late) (fate : List Int) (x : Two) (i : Nat) : Sg := ⟨[(1, .one (.isl .int fate)), (2, .one (.ptr 0 0)), (4, .one (.ptr 1 0)), (5, .one (.ptr 5 0)), (6, vi i)],
  [some (.cells [.isl .str a, .isl .str b, .isl .late l]), some (.cells [.val (.slice none 0 0), .val (.slice none 0 0), .val (.slice none 0 0)]), some (.arr .str x.1), some (.arr .str x.2), some (.arr .late l), some (.cells [.osl .str 2 0 x.1.length, .osl .str 3 0 x.2.length, .osl .late 4 0 l.length])], []⟩
end Go.Proofs.YtmnbgppmfbnamaaGreatDoor
/- Functions: decay. -/
namespace Go.Proofs.YtmnbgppmfbnamaaGreatDoor
open Go.RowKit

/-- A byte, some of its bits turned. -/
def turn (x : UInt8) (mask : Int) : UInt8 := UInt8.ofNat (IntKind.u8.wrap ((BitVec.ofInt 8 (x.toNat : Int) ^^^ BitVec.ofInt 8 (IntKind.u8.wrap mask)).toNat : Int)).toNat
def rotB (s : ByteArray) (k mask : Int) : ByteArray := ⟨(s.data.toList.set k.toNat (turn (s.data.toList.getD k.toNat ET.byte.dflt) mask)).toArray⟩
def Dk.mayRot (d : Dk) (s at_ k mask : Int) : Bool := sector d.a.length s at_ && decide (0 ≤ k) && decide (k < (sec (d.a, d.b) s at_).size) && decide (1 ≤ mask) && decide (mask ≤ 255)
def Dk.rot (d : Dk) (s at_ k mask : Int) : Dk := ⟨(putW (d.a, d.b) ⟨s, at_, rotB (sec (d.a, d.b) s at_) k mask⟩).1, (putW (d.a, d.b) ⟨s, at_, rotB (sec (d.a, d.b) s at_) k mask⟩).2, d.l⟩
def dkRot (d : Dk) (s at_ k mask : Int) : Dk := if d.ok then if d.mayRot s at_ k mask then d.rot s at_ k mask else d else .nil
@[go_sem] def ctDiskRot : Ct := ⟨false, [[some .str, some .str, some .late]], fun args os => match args, os with
  | [.agg [.isl .str a, .isl .str b, .isl .late l], .one (.val (.int .i64 s)), .one (.val (.int .i64 i)), .one (.val (.int .i64 k)), .one (.val (.int .i64 mask))], [] => ⟨(Dk.mk a b l).small, (dkRot ⟨a, b, l⟩ s i k mask).v 0, [], (dkRot ⟨a, b, l⟩ s i k mask).objs⟩
  | _, _ => no⟩
theorem fits_sector (n : Nat) (s k : Int) : fits n s k ⟨#[]⟩ = sector n s k := by
  have : (⟨#[]⟩ : ByteArray).size = 0 := rfl
  unfold fits sector
  rw [Bool.eq_iff_iff]
  simp only [Bool.and_eq_true, decide_eq_true_eq, this]
  omega
theorem sector_iff (n : Nat) (s k : Int) : sector n s k = true ↔ (s = 0 ∨ s = 1) ∧ 0 ≤ k ∧ k < n := by
  unfold sector
  simp only [Bool.and_eq_true, decide_eq_true_eq]
  omega
end Go.Proofs.YtmnbgppmfbnamaaGreatDoor
/- Functions: what is read; pointers. -/
namespace Go.Proofs.YtmnbgppmfbnamaaGreatDoor
open Go.RowKit

/-- The last of the first n late writes of a sector, or what the sector has. -/
def lateText (l : List Late) (s k : Int) (dflt : ByteArray) : Nat → ByteArray
  | 0 => dflt
  | n + 1 => if (ET.late.at l n).side = s ∧ (ET.late.at l n).at_ = k then (ET.late.at l n).text else lateText l s k dflt n
def Dk.text (d : Dk) (s k : Int) : ByteArray := lateText d.l s k (sec (d.a, d.b) s k) d.l.length
@[go_sem] def ctTextOf : Ct := ⟨false, [[some .str, some .str, some .late]], fun args os => match args, os with
  | [.agg [.isl .str a, .isl .str b, .isl .late l], .one (.val (.int .i64 s)), .one (.val (.int .i64 k))], [] => ifp ((Dk.mk a b l).small ∧ b.length = a.length ∧ sector a.length s k = true) (vs ((Dk.mk a b l).text s k))
  | _, _ => no⟩
@[go_sem] def sgTx (a b : List ByteArray) (l : List Late) (s k : Int) (n : Nat) : Sg := ⟨[(1, vi s), (2, vi k), (3, .one (.ptr 0 0)), (7, vi ((n : Int) - 1))], [some (.cells [.isl .str a, .isl .str b, .isl .late l])], []⟩
theorem s_textOf_e : EnterOk Tryz.prog 149 := ⟨_, Tryz.func149, rfl, by decide⟩
@[go_sem] def s_textOf_lv : List (List Nat) := [[1, 2, 3], [1, 2, 3, 7], [1, 2, 3, 7, 14], [1, 2, 3, 7], [1, 2, 3, 7, 8], [1, 2, 3, 7, 8, 31], [6], [6]]
@[go_sem] noncomputable def s_textOf_K : Known := Known.nil
set_option maxHeartbeats 8000000 in
theorem s_textOf : Sound Tryz.prog 149 ctTextOf := by
  have ke := s_textOf_K.env []
  have kl : Lives s_textOf_lv := trivial
  refine sound_intro (E := ⟨ti, s_textOf_K.Γ, []⟩) ke Tryz.func149 Tryz.ntmps149 rfl (rs := [.tmp 6]) rfl ?_
  intro args os hp
  unfold ctTextOf at hp ⊢
  dsimp only at hp ⊢
  split at hp
  · rename_i a b l s k
    refine ⟨by simp, fun φ0 w0 => ?_⟩
    obtain ⟨⟨h1, h2, h3⟩, hab, hs⟩ : (a.length ≤ 4000000 ∧ b.length ≤ 4000000 ∧ l.length ≤ 4000000) ∧ b.length = a.length ∧ sector a.length s k = true := hp
    obtain ⟨ws, w1, w2⟩ := (sector_iff _ _ _).1 hs
    have hw : IntKind.i64.wrap ((l.length : Int) - 1) = (l.length : Int) - 1 := wrap_id _ (by omega) (by omega)
    refine goh hw ?_
    refine W_le (σ' := sgTx a b l s k l.length) [some 0] (by
      simp only [go_sem, inj_r, ↓reduceIte, reduceCtorEq, Nat.reduceAdd, Nat.reduceLT, Nat.reduceLeDiff, Nat.reduceEqDiff, Int.reduceEq]
      all_goals (repeat' refine And.intro ?_ ?_) <;> try exact shut7
      ) ?_
    refine W_loop (fun n σ => n ≤ l.length ∧ lateText l s k (sec (a, b) s k) n = (Dk.mk a b l).text s k ∧ σ = sgTx a b l s k n) l.length ⟨Nat.le_refl _, rfl, rfl⟩ ?_
    rintro n σ ⟨hn, ht, rfl⟩
    unfold sgTx
    refine goh trivial ?_
    refine W_cnd ?_ ?_ <;> (try simp only [cnd_r]) <;> intro hlt
    · obtain ⟨m, rfl⟩ : ∃ m, n = m + 1 := ⟨n - 1, by omega⟩
      have e1 : ((m + 1 : Nat) : Int) - 1 = (m : Int) := by omega
      have e2 : IntKind.i64.wrap ((m : Int) - 1) = (m : Int) - 1 := wrap_id _ (by omega) (by omega)
      refine goh e1 ?_
      refine W_cnd ?_ ?_ <;> (try simp only [cnd_r]) <;> intro hc
      · have ht2 : lateText l s k (sec (a, b) s k) (m + 1) = (ET.late.at l m).text := if_pos hc
        refine goh trivial ?_
        refine ⟨by (simp only [go_sem, ↓reduceIte, reduceCtorEq, Nat.reduceAdd, Nat.reduceLT, Nat.reduceLeDiff, Nat.reduceEqDiff]) <;> trivial, [], ?_⟩
        all_goals try simp only [go_sem, inj_r, ↓reduceIte, reduceCtorEq, Nat.reduceAdd, Nat.reduceLT, Nat.reduceLeDiff, Nat.reduceEqDiff, Int.reduceEq]
        all_goals (repeat' refine And.intro ?_ ?_) <;> try exact shut7
        rw [← ht, ht2]; rfl
      · have ht2 : lateText l s k (sec (a, b) s k) (m + 1) = lateText l s k (sec (a, b) s k) m := by
          refine if_neg ?_
          rintro ⟨q1, q2⟩
          rcases hc with h | h
          · exact h q1
          · rw [beq_eq_false_iff_ne] at h; exact h q2
        refine goh e2 ?_
        refine ⟨m, [some 0], sgTx a b l s k m, by omega, ?_, by omega, ht2 ▸ ht, rfl⟩
        exact leh trivial
    · obtain rfl : n = 0 := by omega
      rcases ws with rfl | rfl
      all_goals
        refine goh trivial ?_
        refine ⟨by (simp only [go_sem, ← ht, lateText, sec, ↓reduceIte, reduceCtorEq, Nat.reduceAdd, Nat.reduceLT, Nat.reduceLeDiff, Nat.reduceEqDiff]) <;> trivial, [], ?_⟩
        all_goals try simp only [go_sem, ← ht, lateText, sec, inj_r, ↓reduceIte, reduceCtorEq, Nat.reduceAdd, Nat.reduceLT, Nat.reduceLeDiff, Nat.reduceEqDiff, Int.reduceEq]
        all_goals (repeat' refine And.intro ?_ ?_) <;> try exact shut7
  · simp [no, ifp] at hp
def dkReads (d : Dk) (s k : Int) : Bool := d.ok && sector d.a.length s k
def dkRead (d : Dk) (s k : Int) : ByteArray := if dkReads d s k then d.text s k else ⟨#[]⟩
@[go_sem] def ctDiskRead : Ct := ⟨false, [[some .str, some .str, some .late]], fun args os => match args, os with
  | [.agg [.isl .str a, .isl .str b, .isl .late l], .one (.val (.int .i64 s)), .one (.val (.int .i64 k))], [] => ifp (Dk.mk a b l).small (.tup [vs (dkRead ⟨a, b, l⟩ s k), vb (dkReads ⟨a, b, l⟩ s k)])
  | _, _ => no⟩
theorem s_diskRead_e : EnterOk Tryz.prog 77 := ⟨_, Tryz.func77, rfl, by decide⟩
@[go_sem] def s_diskRead_lv : List (List Nat) := [[1, 2, 3], [1, 2, 3, 17], [6, 7], [6, 7]]
@[go_sem] noncomputable def s_diskRead_K : Known := (((Known.nil).cons 68 ctDiskOk s_diskOk s_diskOk_e).cons 141 ctIsSector s_isSector s_isSector_e).cons 149 ctTextOf s_textOf s_textOf_e
set_option maxHeartbeats 8000000 in
theorem s_diskRead : Sound Tryz.prog 77 ctDiskRead := by
  have ke := s_diskRead_K.env []
  have kl : Lives s_diskRead_lv := trivial
  refine sound_intro (E := ⟨ti, s_diskRead_K.Γ, []⟩) ke Tryz.func77 Tryz.ntmps77 rfl (rs := [.tmp 6, .tmp 7]) rfl ?_
  intro args os hp
  unfold ctDiskRead at hp ⊢
  dsimp only at hp ⊢
  split at hp
  · rename_i a b l s k
    refine ⟨by simp, fun φ0 w0 => ?_⟩
    obtain ⟨h1, h2, h3⟩ : a.length ≤ 4000000 ∧ b.length ≤ 4000000 ∧ l.length ≤ 4000000 := hp
    have e1 : dkReads ⟨a, b, l⟩ s k = ((Dk.mk a b l).ok && sector a.length s k) := rfl
    have e2 : dkRead ⟨a, b, l⟩ s k = if dkReads ⟨a, b, l⟩ s k then (Dk.mk a b l).text s k else ⟨#[]⟩ := rfl
    refine goh trivial ?_
    refine W_cnd ?_ ?_ <;> (try simp only [cnd_r]) <;> intro hc
    · have e3 : dkReads ⟨a, b, l⟩ s k = false := by
        rw [e1]
        rcases hc with h | h <;> simp [h]
      refine goh trivial ?_
      exact finh [] (And.intro e2 e3)
    · obtain ⟨hok, hs⟩ : (Dk.mk a b l).ok = true ∧ sector a.length s k = true := by simpa using hc
      have e3 : dkReads ⟨a, b, l⟩ s k = true := by rw [e1, hok, hs]; rfl
      obtain ⟨-, -, hab, -⟩ := (Dk.ok_iff _).1 hok
      simp only at hab
      refine goh trivial ?_
      exact finh [] (And.intro e2 e3)
  · simp [no, ifp] at hp

def ptrOkB (p : Ptr) : Bool := (decide (p.at_ = 0) && decide (p.sum = 0) && decide (p.birth = 0)) || (decide (1 ≤ p.at_) && decide (p.at_ ≤ 119) && (decide (0 ≤ p.sum) && decide (p.sum ≤ 65520)) && (decide (0 ≤ p.birth) && decide (p.birth ≤ 1000000)))
@[go_sem] def ctPtrOk : Ct := ⟨false, [], fun args os => match args, os with
  | [.agg [.val (.int .i64 a), .val (.int .i64 s), .val (.int .i64 b)]], [] => is (vb (ptrOkB ⟨a, s, b⟩))
  | _, _ => no⟩
theorem same_ptr (a s b : Int) : same (Ptr.mk a s b) (Ptr.mk 0 0 0) = (decide (a = 0) && decide (s = 0) && decide (b = 0)) := by
  rw [Bool.eq_iff_iff, same_true]
  simp only [Ptr.mk.injEq, Bool.and_eq_true, decide_eq_true_eq, and_assoc]
theorem s_ptrOk_e : EnterOk Tryz.prog 223 := ⟨_, Tryz.func223, rfl, by decide⟩
@[go_sem] def s_ptrOk_lv : List (List Nat) := [[1], [2]]
@[go_sem] noncomputable def s_ptrOk_K : Known := (Known.nil).cons 46 ctWithin s_within s_within_e
set_option maxHeartbeats 8000000 in
theorem s_ptrOk : Sound Tryz.prog 223 ctPtrOk := by
  have ke := s_ptrOk_K.env []
  have kl : Lives s_ptrOk_lv := trivial
  refine sound_intro (E := ⟨ti, s_ptrOk_K.Γ, []⟩) ke Tryz.func223 Tryz.ntmps223 rfl (rs := [.tmp 2]) rfl ?_
  intro args os hp
  unfold ctPtrOk at hp ⊢
  dsimp only at hp ⊢
  split at hp
  · rename_i a s b
    refine ⟨by simp, fun φ0 w0 => ?_⟩
    clear hp
    refine goh trivial ?_
    refine ⟨by (simp only [go_sem, ↓reduceIte, reduceCtorEq, Nat.reduceAdd, Nat.reduceLT, Nat.reduceLeDiff, Nat.reduceEqDiff]) <;> trivial, [], ?_⟩
    all_goals try simp only [go_sem, inj_r, ↓reduceIte, reduceCtorEq, Nat.reduceAdd, Nat.reduceLT, Nat.reduceLeDiff, Nat.reduceEqDiff, Int.reduceEq]
    all_goals (repeat' refine And.intro ?_ ?_) <;> try exact shut7
    rw [same_ptr, ptrOkB, Bool.eq_iff_iff]
    simp only [Bool.if_true_left, Bool.if_false_right, Bool.or_eq_true, Bool.and_eq_true, decide_eq_true_eq, Bool.decide_eq_true, and_assoc]
  · simp [no] at hp
def realB (p : Ptr) : Bool := ptrOkB p && !(p.at_ == 0)
@[go_sem] def ctReal : Ct := ⟨false, [], fun args os => match args, os with
  | [.agg [.val (.int .i64 a), .val (.int .i64 s), .val (.int .i64 b)]], [] => is (vb (realB ⟨a, s, b⟩))
  | _, _ => no⟩
theorem s_isReal_e : EnterOk Tryz.prog 171 := ⟨_, Tryz.func171, rfl, by decide⟩
@[go_sem] def s_isReal_lv : List (List Nat) := [[1], [2]]
@[go_sem] noncomputable def s_isReal_K : Known := (Known.nil).cons 223 ctPtrOk s_ptrOk s_ptrOk_e
set_option maxHeartbeats 8000000 in
theorem s_isReal : Sound Tryz.prog 171 ctReal := by
  have ke := s_isReal_K.env []
  have kl : Lives s_isReal_lv := trivial
  refine sound_intro (E := ⟨ti, s_isReal_K.Γ, []⟩) ke Tryz.func171 Tryz.ntmps171 rfl (rs := [.tmp 2]) rfl ?_
  intro args os hp
  unfold ctReal at hp ⊢
  dsimp only at hp ⊢
  split at hp
  · rename_i a s b
    refine ⟨by simp, fun φ0 w0 => ?_⟩
    clear hp
    refine goh trivial ?_
    refine ⟨by (simp only [go_sem, ↓reduceIte, reduceCtorEq, Nat.reduceAdd, Nat.reduceLT, Nat.reduceLeDiff, Nat.reduceEqDiff]) <;> trivial, [], ?_⟩
    all_goals try simp only [go_sem, inj_r, ↓reduceIte, reduceCtorEq, Nat.reduceAdd, Nat.reduceLT, Nat.reduceLeDiff, Nat.reduceEqDiff, Int.reduceEq]
    all_goals (repeat' refine And.intro ?_ ?_) <;> try exact shut7
    unfold realB
    cases ptrOkB ⟨a, s, b⟩ <;> simp [bne]
  · simp [no] at hp
/-- Does a side of a disk have the block of a pointer? -/
def Dk.has (d : Dk) (p : Ptr) (side : Int) : Bool := sector d.a.length side p.at_ && decide ((sumOf (d.text side p.at_) : Int) = p.sum)
theorem lateText_size (l : List Late) (s k : Int) (dflt : ByteArray) {m : Nat} (h : ∀ i, i < l.length → (l.getD i ET.late.dflt).text.size ≤ m) (hd : dflt.size ≤ m) : ∀ n, n ≤ l.length → (lateText l s k dflt n).size ≤ m
  | 0, _ => hd
  | n + 1, hn => by
    unfold lateText
    split
    · exact h n (by omega)
    · exact lateText_size l s k dflt h hd n (by omega)
theorem Dk.text_size {d : Dk} (h : d.ok = true) (s k : Int) : (d.text s k).size ≤ 420 :=
  lateText_size _ _ _ _ (fun i hi => (Dk.ok_late h i hi).2.2.2) ((Dk.ok_sm h).sec s k) _ (Nat.le_refl _)
@[go_sem] def ctHas : Ct := ⟨false, [[some .str, some .str, some .late]], fun args os => match args, os with
  | [.agg [.isl .str a, .isl .str b, .isl .late l], .agg [.val (.int .i64 pa), .val (.int .i64 ps), .val (.int .i64 pb)], .one (.val (.int .i64 s))], [] => ifp ((Dk.mk a b l).ok = true) (vb ((Dk.mk a b l).has ⟨pa, ps, pb⟩ s))
  | _, _ => no⟩
end Go.Proofs.YtmnbgppmfbnamaaGreatDoor
/- What is known in memory, and a store. -/
namespace Go.Proofs.YtmnbgppmfbnamaaGreatDoor
open Go.RowKit

/-- What is known in memory, and a store. -/
structure Co where
  txg : Int
  sets : List CSet
  ddt : List Ent
  parts : List Ptr
  dirty : Bool
  safe : List Int
  logn : Int
structure Pl where
  disk : Dk
  core : Co
  up : Bool
@[go_sem] def Co.small (c : Co) : Prop := c.sets.length ≤ 4000000 ∧ c.ddt.length ≤ 4000000 ∧ c.parts.length ≤ 4000000 ∧ c.safe.length ≤ 4000000
end Go.Proofs.YtmnbgppmfbnamaaGreatDoor
