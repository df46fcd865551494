/- Plain facts: what a fall leaves. -/
import Derived.Test.YtfmeopnankeaeaaTFi
set_option linter.unusedSimpArgs false
set_option linter.unusedVariables false
set_option linter.unusedSectionVars false
namespace Go.Proofs.Ytfmeopnankeaeaa
open Go.RowKit

/-- Is one of the first n late writes one of this sector? -/
def lateB (l : List Late) (s a : Int) : Nat → Bool
  | 0 => false
  | n + 1 => lateB l s a n || (((ET.late.at l n).side == s) && ((ET.late.at l n).at_ == a))
theorem putW_at (x : Two) (w : Late) (hs : w.side = 0 ∨ w.side = 1) (ha : 0 ≤ w.at_) (a : Nat) :
    (¬ (w.side = 0 ∧ w.at_ = a) → (putW x w).1.getD a ET.str.dflt = x.1.getD a ET.str.dflt) ∧ (¬ (w.side = 1 ∧ w.at_ = a) → (putW x w).2.getD a ET.str.dflt = x.2.getD a ET.str.dflt) := by
  unfold putW
  constructor
  · intro h
    split
    · rename_i h0
      simp only [at_set]
      rw [if_neg]
      rintro ⟨h1, -⟩
      exact h ⟨h0, by omega⟩
    · rfl
  · intro h
    split
    · rfl
    · rename_i h0
      simp only [at_set]
      rw [if_neg]
      rintro ⟨h1, -⟩
      exact h ⟨by omega, by omega⟩
theorem fell_at (f : Int) (x : Two) (w : Late) (hs : w.side = 0 ∨ w.side = 1) (ha : 0 ≤ w.at_) (a : Nat) :
    (¬ (w.side = 0 ∧ w.at_ = a) → (fell f x w).1.getD a ET.str.dflt = x.1.getD a ET.str.dflt) ∧ (¬ (w.side = 1 ∧ w.at_ = a) → (fell f x w).2.getD a ET.str.dflt = x.2.getD a ET.str.dflt) := by
  unfold fell
  split
  · exact putW_at x w hs ha a
  · split
    · exact putW_at x ⟨w.side, w.at_, torn (sec x w.side w.at_) w.text⟩ hs ha a
    · exact ⟨fun _ => rfl, fun _ => rfl⟩
theorem fallN_keep {d : Dk} (h : d.ok = true) (fate : List Int) (a : Nat) : ∀ n, n ≤ d.l.length →
    (lateB d.l 0 a n = false → (d.fallN fate n).1.getD a ET.str.dflt = d.a.getD a ET.str.dflt) ∧ (lateB d.l 1 a n = false → (d.fallN fate n).2.getD a ET.str.dflt = d.b.getD a ET.str.dflt)
  | 0, _ => ⟨fun _ => rfl, fun _ => rfl⟩
  | n + 1, hn => by
    obtain ⟨i1, i2⟩ := fallN_keep h fate a n (by omega)
    obtain ⟨ws, w1, -⟩ := Dk.ok_late h n (by omega)
    obtain ⟨f1, f2⟩ := fell_at (ET.int.at fate n) (d.fallN fate n) (ET.late.at d.l n) ws w1 a
    constructor
    · intro hl
      unfold lateB at hl
      simp only [Bool.or_eq_false_iff, Bool.and_eq_false_iff, beq_eq_false_iff_ne] at hl
      show (fell _ _ _).1.getD a ET.str.dflt = _
      rw [f1 (fun hh => hl.2.elim (fun h => h hh.1) (fun h => h hh.2)), i1 hl.1]
    · intro hl
      unfold lateB at hl
      simp only [Bool.or_eq_false_iff, Bool.and_eq_false_iff, beq_eq_false_iff_ne] at hl
      show (fell _ _ _).2.getD a ET.str.dflt = _
      rw [f2 (fun hh => hl.2.elim (fun h => h hh.1) (fun h => h hh.2)), i2 hl.1]
theorem lateB_mono (l : List Late) (s a : Int) : ∀ m n, m ≤ n → lateB l s a n = false → lateB l s a m = false
  | m, 0, h, _ => by obtain rfl : m = 0 := by omega
                     rfl
  | m, n + 1, h, hl => by
    rcases Nat.lt_succ_iff_lt_or_eq.1 (Nat.lt_succ_of_le h) with h' | rfl
    · refine lateB_mono l s a m n (by omega) ?_
      unfold lateB at hl
      simp only [Bool.or_eq_false_iff] at hl
      exact hl.1
    · exact hl
theorem dkFall_keep {d : Dk} (h : d.ok = true) (fate : List Int) (a : Nat) :
    (lateB d.l 0 a d.l.length = false → (dkFall d fate).a.getD a ET.str.dflt = d.a.getD a ET.str.dflt) ∧ (lateB d.l 1 a d.l.length = false → (dkFall d fate).b.getD a ET.str.dflt = d.b.getD a ET.str.dflt) := by
  have e : dkFall d fate = d.fallen fate := by unfold dkFall; rw [if_pos h]
  rw [e]
  obtain ⟨i1, i2⟩ := fallN_keep h fate a (min d.l.length fate.length) (by omega)
  exact ⟨fun hl => i1 (lateB_mono _ _ _ _ _ (by omega) hl), fun hl => i2 (lateB_mono _ _ _ _ _ (by omega) hl)⟩
theorem dkFall_nil {d : Dk} (h : d.ok = true) : dkFall d [] = ⟨d.a, d.b, []⟩ := by
  unfold dkFall Dk.fallen
  rw [if_pos h]
  simp only [List.length_nil, Nat.min_zero]
  rfl
theorem fallN_all (d : Dk) (m : Nat) : ∀ n, n ≤ d.l.length → n ≤ m → d.fallN (List.replicate m 1) n = d.done n
  | 0, _, _ => by rw [Dk.done_zero]; rfl
  | n + 1, h, hm => by
    rw [Dk.done_succ d n h]
    unfold Dk.fallN
    rw [fallN_all d m n (by omega) (by omega)]
    have : ET.int.at (List.replicate m 1) n = 1 := by
      unfold ET.at
      rw [List.getD_eq_getElem?_getD, List.getElem?_replicate, if_pos (by omega)]; rfl
    rw [this]
    rfl
theorem dkFall_all (d : Dk) : dkFall d (List.replicate d.l.length 1) = dkFlush d := by
  unfold dkFall dkFlush Dk.fallen Dk.flushed
  rw [List.length_replicate, Nat.min_self, fallN_all d d.l.length d.l.length (Nat.le_refl _) (Nat.le_refl _)]
theorem dkFall_small (d : Dk) (fate : List Int) : (dkFall d fate).a.length ≤ d.a.length ∧ (dkFall d fate).b.length ≤ d.b.length ∧ (dkFall d fate).l = [] := by
  unfold dkFall
  split
  · have := d.fallN_len fate (min d.l.length fate.length)
    exact ⟨by show (d.fallN _ _).1.length ≤ _; omega, by show (d.fallN _ _).2.length ≤ _; omega, rfl⟩
  · exact ⟨Nat.zero_le _, Nat.zero_le _, rfl⟩
theorem dkFall_len {d : Dk} (h : d.ok = true) (fate : List Int) : (dkFall d fate).a.length = d.a.length ∧ (dkFall d fate).b.length = d.b.length := by
  have e : dkFall d fate = d.fallen fate := by unfold dkFall; rw [if_pos h]
  rw [e]; exact d.fallN_len fate _
end Go.Proofs.Ytfmeopnankeaeaa
