/- Plain facts: the last write wins. -/
import Derived.Test.YtfmeopnankeaeaaTPc
import Derived.Test.YtfmeopnankeaeaaTFp
set_option linter.unusedSimpArgs false
set_option linter.unusedVariables false
set_option linter.unusedSectionVars false
namespace Go.Proofs.Ytfmeopnankeaeaa
open Go.RowKit

theorem may_iff (d : Dk) (s k : Int) (t : ByteArray) : d.may s k t = true ↔ (s = 0 ∨ s = 1) ∧ 0 ≤ k ∧ k < d.a.length ∧ t.size ≤ 420 ∧ d.l.length < 600 := by
  unfold Dk.may fits
  simp only [Bool.and_eq_true, decide_eq_true_eq]
  omega
theorem snoc_getD {α : Type} (l : List α) (x d : α) (i : Nat) : (l ++ [x]).getD i d = if i = l.length then x else l.getD i d := by
  simp only [List.getD_eq_getElem?_getD]
  by_cases h : i = l.length
  · subst h; simp
  · rw [if_neg h]
    rcases Nat.lt_or_ge i l.length with h' | h'
    · rw [List.getElem?_append_left h']
    · rw [List.getElem?_eq_none (by simp; omega), List.getElem?_eq_none (by omega)]
theorem Dk.add_ok {d : Dk} (h : d.ok = true) {s k : Int} {t : ByteArray} (hm : d.may s k t = true) : (d.add s k t).ok = true := by
  obtain ⟨m1, m2, m3, m4, m5⟩ := (may_iff d s k t).1 hm
  rw [Dk.ok_iff] at h ⊢
  obtain ⟨h1, h2, h3, h4, h5, h6, h7⟩ := h
  refine ⟨h1, h2, h3, ?_, h5, h6, fun j hj => ?_⟩
  · show (d.l ++ [_]).length ≤ 600
    rw [List.length_append]; simp only [List.length_cons, List.length_nil]; omega
  · show badLate d.a.length ((d.l ++ [(⟨s, k, t⟩ : Late)]).getD j ET.late.dflt) = false
    rw [snoc_getD]
    split
    · unfold badLate sector long
      simp only [Bool.or_eq_false_iff, Bool.not_eq_false', Bool.and_eq_true, decide_eq_true_eq, decide_eq_false_iff_not]
      omega
    · rename_i hne
      refine h7 j ?_
      have : (d.l ++ [(⟨s, k, t⟩ : Late)]).length = d.l.length + 1 := by simp
      have hj' : j < (d.l ++ [(⟨s, k, t⟩ : Late)]).length := hj
      omega
theorem lateText_snoc (l : List Late) (w : Late) (s k : Int) (z : ByteArray) : ∀ n, n ≤ l.length → lateText (l ++ [w]) s k z n = lateText l s k z n
  | 0, _ => rfl
  | n + 1, h => by
    unfold lateText
    have e : ET.late.at (l ++ [w]) n = ET.late.at l n := by
      show (l ++ [w]).getD n ET.late.dflt = _
      rw [snoc_getD, if_neg (by omega)]; rfl
    rw [e, lateText_snoc l w s k z n (by omega)]
theorem Dk.add_text (d : Dk) (s k : Int) (t : ByteArray) (s' k' : Int) : (d.add s k t).text s' k' = if s = s' ∧ k = k' then t else d.text s' k' := by
  unfold Dk.text
  show lateText (d.l ++ [(⟨s, k, t⟩ : Late)]) s' k' (sec (d.a, d.b) s' k') (d.l ++ [(⟨s, k, t⟩ : Late)]).length = _
  have e : (d.l ++ [(⟨s, k, t⟩ : Late)]).length = d.l.length + 1 := by simp
  rw [e]
  have e2 : ET.late.at (d.l ++ [(⟨s, k, t⟩ : Late)]) d.l.length = ⟨s, k, t⟩ := by
    show (d.l ++ [(⟨s, k, t⟩ : Late)]).getD d.l.length ET.late.dflt = _
    rw [snoc_getD, if_pos rfl]
  have e3 : ∀ (l : List Late) (z : ByteArray) (n : Nat), lateText l s' k' z (n + 1) = if (ET.late.at l n).side = s' ∧ (ET.late.at l n).at_ = k' then (ET.late.at l n).text else lateText l s' k' z n := fun _ _ _ => rfl
  rw [e3, e2, lateText_snoc _ _ _ _ _ _ (Nat.le_refl _)]
theorem sec_put (x : Two) (w : Late) (hs : w.side = 0 ∨ w.side = 1) (ha : 0 ≤ w.at_) (h1 : w.at_ < x.1.length) (h2 : w.at_ < x.2.length) (s k : Int) (hs' : s = 0 ∨ s = 1) (hk : 0 ≤ k) :
    sec (putW x w) s k = if w.side = s ∧ w.at_ = k then w.text else sec x s k := by
  unfold sec putW
  by_cases h0 : w.side = 0
  · rw [if_pos h0]
    by_cases hs0 : s = 0
    · rw [if_pos hs0, if_pos hs0]
      show (x.1.set w.at_.toNat w.text).getD k.toNat ET.str.dflt = _
      rw [at_set]
      by_cases hk' : w.at_ = k
      · rw [if_pos ⟨by omega, by omega⟩, if_pos ⟨by omega, hk'⟩]
      · rw [if_neg (by omega), if_neg (by omega)]; rfl
    · rw [if_neg hs0, if_neg (by omega), if_neg hs0]
  · rw [if_neg h0]
    by_cases hs0 : s = 0
    · rw [if_pos hs0, if_neg (by omega), if_pos hs0]
    · rw [if_neg hs0, if_neg hs0]
      show (x.2.set w.at_.toNat w.text).getD k.toNat ET.str.dflt = _
      rw [at_set]
      by_cases hk' : w.at_ = k
      · rw [if_pos ⟨by omega, by omega⟩, if_pos ⟨by omega, hk'⟩]
      · rw [if_neg (by omega), if_neg (by omega)]; rfl
/-- What is performed is what was read. -/
theorem done_text {d : Dk} (h : d.ok = true) (s k : Int) (hs : s = 0 ∨ s = 1) (hk : 0 ≤ k) : ∀ n, n ≤ d.l.length → sec (d.done n) s k = lateText d.l s k (sec (d.a, d.b) s k) n
  | 0, _ => by rw [Dk.done_zero]; rfl
  | n + 1, hn => by
    obtain ⟨ws, w1, w2, -⟩ := Dk.ok_late h n (by omega)
    obtain ⟨-, -, hab, -⟩ := (Dk.ok_iff _).1 h
    obtain ⟨l1, l2⟩ := d.done_len n
    rw [Dk.done_succ d n (by omega), sec_put _ _ ws w1 (by omega) (by omega) s k hs hk, done_text h s k hs hk n (by omega)]
    rfl
theorem sm_ok {a b : List ByteArray} (h1 : 1 ≤ a.length) (h2 : a.length ≤ 120) (h3 : b.length = a.length) (h : Sm (a, b)) : (Dk.mk a b []).ok = true := by
  rw [Dk.ok_iff]
  refine ⟨h1, h2, h3, Nat.zero_le _, fun j _ => ?_, fun j _ => ?_, fun j hj => absurd hj (Nat.not_lt_zero j)⟩
  · have := (h j).1; unfold long; simp only [decide_eq_false_iff_not]; simp only at this; omega
  · have := (h j).2; unfold long; simp only [decide_eq_false_iff_not]; simp only at this; omega
theorem dkFall_ok {d : Dk} (h : d.ok = true) (fate : List Int) : (dkFall d fate).ok = true := by
  have e : dkFall d fate = d.fallen fate := by unfold dkFall; rw [if_pos h]
  obtain ⟨h1, h2, h3, -⟩ := (Dk.ok_iff _).1 h
  obtain ⟨l1, l2⟩ := d.fallN_len fate (min d.l.length fate.length)
  rw [e]
  exact sm_ok (by omega) (by omega) (by omega) (Dk.fallN_sm h fate _ (by omega))
theorem dkFlush_ok {d : Dk} (h : d.ok = true) : (dkFlush d).ok = true := by rw [← dkFall_all]; exact dkFall_ok h _
/-- What is read where only the first n late writes have been kept. -/
theorem fall_read {d : Dk} (h : d.ok = true) (n : Nat) (hn : n ≤ d.l.length) (s k : Int) (hs : sector d.a.length s k = true) :
    dkRead (dkFall d (List.replicate n 1)) s k = lateText d.l s k (sec (d.a, d.b) s k) n := by
  obtain ⟨ws, w1, w2⟩ := (sector_iff _ _ _).1 hs
  have hok := dkFall_ok h (List.replicate n 1)
  have e : dkFall d (List.replicate n 1) = ⟨(d.done n).1, (d.done n).2, []⟩ := by
    unfold dkFall Dk.fallen
    rw [if_pos h, List.length_replicate, Nat.min_eq_right hn, fallN_all d n n hn (Nat.le_refl _)]
  rw [e] at hok ⊢
  have hl := (d.done_len n).1
  unfold dkRead dkReads
  rw [hok]
  simp only [hl, hs, Bool.and_self, if_true]
  show lateText [] s k (sec ((d.done n).1, (d.done n).2) s k) 0 = _
  exact done_text h s k ws w1 n hn
theorem dkRead_ok {d : Dk} (h : d.ok = true) (s k : Int) (hs : sector d.a.length s k = true) : dkRead d s k = d.text s k := by
  unfold dkRead dkReads; rw [h, hs]; rfl
theorem last_all {d : Dk} {s k : Int} {t o : ByteArray} (h1 : dkWrites d s k t = true) (h2 : dkWrites (dkWrite d s k t) s k o = true) :
    (dkWrite (dkWrite d s k t) s k o).ok = true ∧ 1 ≤ (dkWrite (dkWrite d s k t) s k o).l.length ∧ dkRead (dkWrite (dkWrite d s k t) s k o) s k = o ∧
    dkRead (dkFall (dkWrite (dkWrite d s k t) s k o) (List.replicate (dkWrite (dkWrite d s k t) s k o).l.length 1)) s k = o ∧
    dkRead (dkFall (dkWrite (dkWrite d s k t) s k o) (List.replicate ((dkWrite (dkWrite d s k t) s k o).l.length - 1) 1)) s k = t := by
  have hd : d.ok = true ∧ d.may s k t = true := by unfold dkWrites at h1; simpa using h1
  have e1 : dkWrite d s k t = d.add s k t := by unfold dkWrite; rw [if_pos hd.1, if_pos hd.2]
  rw [e1] at h2 ⊢
  have hx : (d.add s k t).ok = true ∧ (d.add s k t).may s k o = true := by unfold dkWrites at h2; simpa using h2
  have e2 : dkWrite (d.add s k t) s k o = (d.add s k t).add s k o := by unfold dkWrite; rw [if_pos hx.1, if_pos hx.2]
  rw [e2]
  have hy := Dk.add_ok hx.1 hx.2
  obtain ⟨m1, m2, m3, -, -⟩ := (may_iff _ _ _ _).1 hx.2
  have hs : sector (((d.add s k t).add s k o)).a.length s k = true := (sector_iff _ _ _).2 ⟨m1, m2, m3⟩
  have hl : ((d.add s k t).add s k o).l.length = (d.add s k t).l.length + 1 := by show ((d.add s k t).l ++ [_]).length = _; simp
  have r1 := dkRead_ok hy s k hs
  have r2 := fall_read hy ((d.add s k t).add s k o).l.length (Nat.le_refl _) s k hs
  have r3 := fall_read hy (((d.add s k t).add s k o).l.length - 1) (by omega) s k hs
  have t1 : ((d.add s k t).add s k o).text s k = o := by rw [Dk.add_text, if_pos ⟨rfl, rfl⟩]
  refine ⟨hy, by omega, by rw [r1, t1], by rw [r2]; exact t1, ?_⟩
  rw [r3, hl, Nat.add_sub_cancel]
  show lateText ((d.add s k t).l ++ [_]) s k _ (d.add s k t).l.length = t
  rw [lateText_snoc _ _ _ _ _ _ (Nat.le_refl _)]
  have t2 : (d.add s k t).text s k = t := by rw [Dk.add_text, if_pos ⟨rfl, rfl⟩]
  exact t2
end Go.Proofs.Ytfmeopnankeaeaa
