/- Plain facts: blocks. -/
import Derived.Test.YtfmeopnankeaeaaTPd
import Derived.Test.YtfmeopnankeaeaaTPb
import Derived.Test.YtfmeopnankeaeaaTFt
set_option linter.unusedSimpArgs false
set_option linter.unusedVariables false
set_option linter.unusedSectionVars false
namespace Go.Proofs.Ytfmeopnankeaeaa
open Go.RowKit

theorem sumOf_lt (t : ByteArray) : sumOf t < 65521 := sumAt_lt t t.size
theorem Dk.add2_text (d : Dk) (k : Int) (t : ByteArray) (s' k' : Int) : (d.add2 k t).text s' k' = if (s' = 0 ∨ s' = 1) ∧ k = k' then t else d.text s' k' := by
  show ((d.add 0 k t).add 1 k t).text s' k' = _
  rw [Dk.add_text, Dk.add_text]
  by_cases h1 : 1 = s' ∧ k = k'
  · rw [if_pos h1, if_pos ⟨.inr h1.1.symm, h1.2⟩]
  · rw [if_neg h1]
    by_cases h2 : 0 = s' ∧ k = k'
    · rw [if_pos h2, if_pos ⟨.inl h2.1.symm, h2.2⟩]
    · rw [if_neg h2, if_neg]
      rintro ⟨h3 | h3, h4⟩
      · exact h2 ⟨h3.symm, h4⟩
      · exact h1 ⟨h3.symm, h4⟩
theorem may2_iff (d : Dk) (k : Int) (t : ByteArray) : d.may2 k t = true ↔ 0 ≤ k ∧ k < d.a.length ∧ t.size ≤ 420 ∧ d.l.length ≤ 598 := by
  unfold Dk.may2
  rw [Bool.and_eq_true, decide_eq_true_eq, may_iff]
  omega
theorem Dk.add2_ok {d : Dk} (h : d.ok = true) {k : Int} {t : ByteArray} (hm : d.may2 k t = true) : (d.add2 k t).ok = true := by
  obtain ⟨m1, m2, m3, m4⟩ := (may2_iff d k t).1 hm
  have h0 : d.may 0 k t = true := (may_iff _ _ _ _).2 ⟨.inl rfl, m1, m2, m3, by omega⟩
  exact Dk.add_ok (Dk.add_ok h h0) (may2_one k t h0 m4)
theorem blkWrites_pos {d : Dk} {k : Int} {t : ByteArray} (h : blkWrites d k t = true) :
    d.ok = true ∧ d.may2 k t = true ∧ blkWrite d k t = d.add2 k t ∧ (blkWrite d k t).ok = true ∧ (blkWrite d k t).a.length = d.a.length ∧
    ∀ s' k', (blkWrite d k t).text s' k' = if (s' = 0 ∨ s' = 1) ∧ k = k' then t else d.text s' k' := by
  unfold blkWrites at h
  rw [Bool.and_eq_true] at h
  have e : blkWrite d k t = d.add2 k t := by unfold blkWrite; rw [if_pos h.1, if_pos h.2]
  rw [e]
  exact ⟨h.1, h.2, rfl, Dk.add2_ok h.1 h.2, rfl, d.add2_text k t⟩
theorem blk_same {d x : Dk} {p : Ptr} (h1 : x.ok = d.ok) (h2 : x.a.length = d.a.length) (h3 : ∀ s, x.text s p.at_ = d.text s p.at_) : blkRead x p = blkRead d p := by
  unfold blkRead Dk.has; rw [h1, h2, h3 0, h3 1]
theorem blkTo_real {k : Int} {t : ByteArray} {b : Int} (h1 : 1 ≤ k) (h2 : k ≤ 119) (h3 : 0 ≤ b) (h4 : b ≤ 1000000) : blkTo k t b = ⟨k, (sumOf t : Nat), b⟩ ∧ realB ⟨k, (sumOf t : Nat), b⟩ = true := by
  have hs := sumOf_lt t
  have e : realB ⟨k, (sumOf t : Nat), b⟩ = true := by
    unfold realB ptrOkB
    simp only [Bool.and_eq_true, Bool.or_eq_true, decide_eq_true_eq, Bool.not_eq_true', beq_eq_false_iff_ne, ne_eq]
    omega
  exact ⟨by unfold blkTo; rw [if_pos e], e⟩
theorem real_at {p : Ptr} (h : realB p = true) : 1 ≤ p.at_ ∧ p.at_ ≤ 119 := by
  unfold realB ptrOkB at h
  simp only [Bool.and_eq_true, Bool.or_eq_true, decide_eq_true_eq, Bool.not_eq_true', beq_eq_false_iff_ne, ne_eq] at h
  omega
theorem blk_fine {d : Dk} {p : Ptr} (h : d.ok = true) (hp : realB p = true) {t : ByteArray} (h0 : (d.has p 0 = true ∧ d.text 0 p.at_ = t) ∨ (d.has p 0 = false ∧ d.has p 1 = true ∧ d.text 1 p.at_ = t)) : blkRead d p = (t, 0) := by
  have := real_at hp
  unfold blkRead
  rw [if_neg (by omega), h, hp, Bool.and_self, if_pos rfl]
  rcases h0 with ⟨h1, h2⟩ | ⟨h1, h2, h3⟩
  · rw [if_pos h1, h2]
  · rw [h1, if_neg (by decide), if_pos h2, h3]
theorem has_iff (d : Dk) (p : Ptr) (s : Int) : d.has p s = true ↔ sector d.a.length s p.at_ = true ∧ (sumOf (d.text s p.at_) : Int) = p.sum := by
  unfold Dk.has; rw [Bool.and_eq_true, decide_eq_true_eq]
theorem flush_ok {x : Dk} (h : x.ok = true) : (dkFlush x).ok = true ∧ (dkFlush x).a.length = x.a.length ∧ (dkFlush x).l = [] ∧ ∀ s k, sector x.a.length s k = true → (dkFlush x).text s k = x.text s k := by
  have hl := (dkFall_len h (List.replicate x.l.length 1)).1
  have hl2 := (dkFall_small x (List.replicate x.l.length 1)).2.2
  rw [dkFall_all] at hl hl2
  refine ⟨dkFlush_ok h, hl, hl2, fun s k hs => ?_⟩
  have h1 := fall_read h x.l.length (Nat.le_refl _) s k hs
  rw [dkFall_all] at h1
  have h2 : dkReads (dkFlush x) s k = true := by unfold dkReads; rw [dkFlush_ok h, hl, hs]; rfl
  have h3 : dkRead (dkFlush x) s k = (dkFlush x).text s k := by unfold dkRead; rw [if_pos h2]
  rw [← h3, h1]; rfl
theorem flush_small (d : Dk) : (dkFlush d).a.length ≤ d.a.length ∧ (dkFlush d).b.length ≤ d.b.length ∧ (dkFlush d).l.length = 0 := by
  unfold dkFlush
  split
  · have := d.done_len d.l.length
    exact ⟨by show (d.done _).1.length ≤ _; omega, by show (d.done _).2.length ≤ _; omega, rfl⟩
  · exact ⟨Nat.zero_le _, Nat.zero_le _, rfl⟩
theorem same_refl {α : Type} (x : α) : same x x = true := by simp [same]
theorem fallen_flush (x : Dk) (fate : List Int) : dkFall (dkFlush x) fate = dkFlush x := by
  by_cases h : x.ok = true
  · have hok := dkFlush_ok h
    have e : dkFlush x = x.flushed := by unfold dkFlush; rw [if_pos h]
    unfold dkFall
    rw [if_pos hok, e]
    unfold Dk.fallen
    have : min x.flushed.l.length fate.length = 0 := Nat.min_eq_left (Nat.zero_le _)
    rw [this]; rfl
  · have e : dkFlush x = .nil := by unfold dkFlush; rw [if_neg h]
    rw [e]; unfold dkFall; rw [show Dk.nil.ok = false by decide]; rfl
/-- One block written: no other one is disturbed. -/
theorem one_all {d : Dk} {k : Int} {t : ByteArray} (h : blkWrites d k t = true) :
    (∀ (i : Int) (b : Int), 1 ≤ i → i < d.a.length → 0 ≤ b → b ≤ 9 → i ≠ k → blkRead (blkWrite d k t) (blkTo i (dkRead d 0 i) b) = blkRead d (blkTo i (dkRead d 0 i) b)) ∧
    (1 ≤ k → blkRead (dkFlush (blkWrite d k t)) (blkTo k t 1) = (t, 0)) := by
  obtain ⟨h1, h2, h3, h4, h5, h6⟩ := blkWrites_pos h
  obtain ⟨a1, a2, -⟩ := (Dk.ok_iff _).1 h1
  obtain ⟨m1, m2, m3, m4⟩ := (may2_iff _ _ _).1 h2
  constructor
  · intro i b hi1 hi2 hb1 hb2 hik
    obtain ⟨p1, p2⟩ := blkTo_real (t := dkRead d 0 i) hi1 (show i ≤ 119 by omega) hb1 (show b ≤ 1000000 by omega)
    rw [p1]
    refine blk_same (by rw [h4, h1]) h5 fun s => ?_
    rw [h6, if_neg]
    rintro ⟨-, h⟩
    exact hik h.symm
  · intro hk
    obtain ⟨p1, p2⟩ := blkTo_real (t := t) hk (show k ≤ 119 by omega) (show (0:Int) ≤ 1 by decide) (by decide)
    rw [p1]
    obtain ⟨f1, f2, -, f3⟩ := flush_ok h4
    have hs : sector (blkWrite d k t).a.length 0 k = true := (sector_iff _ _ _).2 ⟨.inl rfl, m1, by omega⟩
    have ht : (dkFlush (blkWrite d k t)).text 0 k = t := by rw [f3 _ _ hs, h6, if_pos ⟨.inl rfl, rfl⟩]
    refine blk_fine f1 p2 (.inl ⟨(has_iff _ _ _).2 ⟨by rw [f2]; exact hs, ?_⟩, ht⟩)
    rw [ht]
/-- A decayed copy is noticed, and repaired. -/
theorem heal_all {d : Dk} {k : Int} {t : ByteArray} (h : blkWrites d k t = true) (hk : 1 ≤ k) (side j m : Int) (hside : side = 0 ∨ side = 1) :
    blkRead (blkWrite d k t) (blkTo k t 1) = (t, 0) ∧ blkRead (dkRot (dkFlush (blkWrite d k t)) side k j m) (blkTo k t 1) = (t, 0) ∧
    (blkHeal (dkRot (dkFlush (blkWrite d k t)) side k j m) (blkTo k t 1)).2 = 0 ∧
    blkSide (blkHeal (dkRot (dkFlush (blkWrite d k t)) side k j m) (blkTo k t 1)).1 (blkTo k t 1) 0 = true ∧
    blkSide (blkHeal (dkRot (dkFlush (blkWrite d k t)) side k j m) (blkTo k t 1)).1 (blkTo k t 1) 1 = true ∧
    blkTo k t 1 = ⟨k, (sumOf t : Nat), 1⟩ ∧ ∀ s : Int, s ≠ (sumOf t : Nat) → (blkRead (dkFlush (blkWrite d k t)) ⟨k, s, 1⟩).2 = 2 := by
  obtain ⟨h1, h2, h3, h4, h5, h6⟩ := blkWrites_pos h
  obtain ⟨a1, a2, -⟩ := (Dk.ok_iff _).1 h1
  obtain ⟨m1, m2, m3, m4⟩ := (may2_iff _ _ _).1 h2
  obtain ⟨p1, p2⟩ := blkTo_real (t := t) hk (show k ≤ 119 by omega) (show (0:Int) ≤ 1 by decide) (by decide)
  obtain ⟨f1, f2, fl, f3⟩ := flush_ok h4
  rw [p1]
  have hs0 : sector (blkWrite d k t).a.length 0 k = true := (sector_iff _ _ _).2 ⟨.inl rfl, m1, by omega⟩
  have hs1 : sector (blkWrite d k t).a.length 1 k = true := (sector_iff _ _ _).2 ⟨.inr rfl, m1, by omega⟩
  have x0 : (blkWrite d k t).text 0 k = t := by rw [h6, if_pos ⟨.inl rfl, rfl⟩]
  have x1 : (blkWrite d k t).text 1 k = t := by rw [h6, if_pos ⟨.inr rfl, rfl⟩]
  have y0 : (dkFlush (blkWrite d k t)).text 0 k = t := by rw [f3 _ _ hs0, x0]
  have y1 : (dkFlush (blkWrite d k t)).text 1 k = t := by rw [f3 _ _ hs1, x1]
  obtain ⟨y, hy⟩ : ∃ y, dkFlush (blkWrite d k t) = y := ⟨_, rfl⟩
  rw [hy] at f1 f2 fl f3 y0 y1 ⊢
  have ya : y.a.length = d.a.length := by rw [f2, h5]
  obtain ⟨r1, r2, r3⟩ := And.intro (dkRot_ok f1 side k j m) (dkRot_len f1 side k j m)
  have hrot := dkRot_at f1 side k j m k.toNat (by omega)
  obtain ⟨z, hz⟩ : ∃ z, dkRot y side k j m = z := ⟨_, rfl⟩
  rw [hz] at r1 r2 r3 hrot ⊢
  have hnum : ∀ (u : Dk) (s : Int), u.l = [] → u.text s k = (if s = 0 then u.a.getD k.toNat ET.str.dflt else u.b.getD k.toNat ET.str.dflt) := by
    intro u s hu
    unfold Dk.text
    rw [hu]
    show lateText [] s k (sec (u.a, u.b) s k) 0 = _
    unfold sec; rfl
  have zl : z.l = [] := by rw [r3.2, fl]
  have ny0 := hnum y 0 fl
  have ny1 := hnum y 1 fl
  have nz0 := hnum z 0 zl
  have nz1 := hnum z 1 zl
  rw [if_pos rfl] at ny0 nz0
  rw [if_neg (by decide)] at ny1 nz1
  rw [← ny0, ← ny1, ← nz0, ← nz1, y0, y1] at hrot
  obtain ⟨q0, q1⟩ := hrot
  have zs0 : sector z.a.length 0 k = true := (sector_iff _ _ _).2 ⟨.inl rfl, m1, by omega⟩
  have zs1 : sector z.a.length 1 k = true := (sector_iff _ _ _).2 ⟨.inr rfl, m1, by omega⟩
  have hb : ∀ (u : Dk) (s : Int), sector u.a.length s k = true → u.text s k = t → u.has ⟨k, (sumOf t : Nat), 1⟩ s = true := by
    intro u s hs ht
    exact (has_iff _ _ _).2 ⟨hs, by rw [ht]⟩
  have w0 : z.has ⟨k, (sumOf t : Nat), 1⟩ 0 = true ∧ z.text 0 k = t ∨ z.has ⟨k, (sumOf t : Nat), 1⟩ 0 = false ∧ side = 0 := by
    by_cases hc : z.text 0 k = t
    · exact .inl ⟨hb z 0 zs0 hc, hc⟩
    · obtain ⟨-, c1, -, c2⟩ := q0 hc
      refine .inr ⟨?_, c1⟩
      rw [← Bool.not_eq_true]
      intro hh
      have := ((has_iff _ _ _).1 hh).2
      exact c2 (by simp only at this; omega)
  have w1 : z.has ⟨k, (sumOf t : Nat), 1⟩ 1 = true ∧ z.text 1 k = t ∨ z.has ⟨k, (sumOf t : Nat), 1⟩ 1 = false ∧ side = 1 := by
    by_cases hc : z.text 1 k = t
    · exact .inl ⟨hb z 1 zs1 hc, hc⟩
    · obtain ⟨-, c1, -, c2⟩ := q1 hc
      refine .inr ⟨?_, c1⟩
      rw [← Bool.not_eq_true]
      intro hh
      have := ((has_iff _ _ _).1 hh).2
      exact c2 (by simp only at this; omega)
  have hread : blkRead z ⟨k, (sumOf t : Nat), 1⟩ = (t, 0) := by
    refine blk_fine r1 p2 ?_
    rcases w0 with w0 | ⟨w0, rfl⟩
    · exact .inl w0
    · rcases w1 with w1 | ⟨_, w1⟩
      · exact .inr ⟨w0, w1⟩
      · exact absurd w1 (by decide)
  have zl0 : z.l.length = 0 := by rw [zl]; rfl
  have hside2 : ∀ (u : Dk) (s : Int), u.ok = true → u.has ⟨k, (sumOf t : Nat), 1⟩ s = true → blkSide u ⟨k, (sumOf t : Nat), 1⟩ s = true := by
    intro u s h1 h2; unfold blkSide; rw [h1, h2, p2]; rfl
  have hheal : (blkHeal z ⟨k, (sumOf t : Nat), 1⟩).2 = 0 ∧ blkSide (blkHeal z ⟨k, (sumOf t : Nat), 1⟩).1 ⟨k, (sumOf t : Nat), 1⟩ 0 = true ∧ blkSide (blkHeal z ⟨k, (sumOf t : Nat), 1⟩).1 ⟨k, (sumOf t : Nat), 1⟩ 1 = true := by
    unfold blkHeal
    rw [if_pos r1, hread]
    by_cases hc : z.has ⟨k, (sumOf t : Nat), 1⟩ 0 = z.has ⟨k, (sumOf t : Nat), 1⟩ 1
    · rw [if_pos (.inr hc)]
      rcases w0 with w0 | ⟨w0, rfl⟩
      · exact ⟨rfl, hside2 z 0 r1 w0.1, hside2 z 1 r1 (hc ▸ w0.1)⟩
      · rcases w1 with w1 | ⟨_, w1⟩
        · rw [w0, w1.1] at hc; cases hc
        · exact absurd w1 (by decide)
    · rw [if_neg (by rintro (hh | hh); exact hh rfl; exact hc hh)]
      have hbs : badSide z ⟨k, (sumOf t : Nat), 1⟩ = 0 ∨ badSide z ⟨k, (sumOf t : Nat), 1⟩ = 1 := by unfold badSide; split <;> simp
      have hmay : z.may (badSide z ⟨k, (sumOf t : Nat), 1⟩) k t = true := (may_iff _ _ _ _).2 ⟨hbs, m1, by omega, m3, by omega⟩
      simp only [hmay, if_true]
      refine ⟨trivial, ?_, ?_⟩
      · refine hside2 _ 0 (Dk.add_ok r1 hmay) (hb _ 0 zs0 ?_)
        rw [Dk.add_text]
        unfold badSide
        rcases w0 with w0 | ⟨w0, _⟩
        · simp [w0.1, w0.2]
        · simp [w0]
      · refine hside2 _ 1 (Dk.add_ok r1 hmay) (hb _ 1 zs1 ?_)
        rw [Dk.add_text]
        unfold badSide
        rcases w0 with w0 | ⟨w0, rfl⟩
        · simp [w0.1]
        · rcases w1 with w1 | ⟨_, w1⟩
          · simp [w0, w1.2]
          · exact absurd w1 (by decide)
  refine ⟨blk_fine h4 p2 (.inl ⟨hb _ 0 hs0 x0, x0⟩), hread, hheal.1, hheal.2.1, hheal.2.2, rfl, fun s hs => ?_⟩
  unfold blkRead
  rw [if_neg (by simp only; omega)]
  have n0 : ∀ u, y.text u k = t → y.has ⟨k, s, 1⟩ u = false := by
    intro u hu
    rw [← Bool.not_eq_true]
    intro hh
    have := ((has_iff _ _ _).1 hh).2
    simp only [hu] at this
    exact hs this.symm
  rw [n0 0 y0, n0 1 y1]
  split <;> rfl
end Go.Proofs.Ytfmeopnankeaeaa
