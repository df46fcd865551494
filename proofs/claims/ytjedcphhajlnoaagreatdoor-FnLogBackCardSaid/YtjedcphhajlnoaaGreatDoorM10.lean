import Derived.Test.YtjedcphhajlnoaaGreatDoorM6
import Derived.Test.YtjedcphhajlnoaaGreatDoorM8
import Derived.Test.YtjedcphhajlnoaaGreatDoorM9
set_option linter.unusedSimpArgs false
set_option linter.unusedVariables false
set_option linter.unusedSectionVars false
/- Plain facts: blocks. -/
namespace Go.Proofs.YtjedcphhajlnoaaGreatDoor
open Go.RowKit

theorem sumOf_lt (t : ByteArray) : sumOf t < 65521 := sumAt_lt t t.size
theorem Dk.add2_text (d : Dk) (k : Int) (t : ByteArray) (s' k' : Int) : (d.add2 k t).text s' k' = if (s' = 0 ∨ s' = 1) ∧ k = k' then t else d.text s' k' := by
  show ((d.add 0 k t).add 1 k t).text s' k' = _
  rw [Dk.add_text, Dk.add_text]
  by_cases h1 : 1 = s' ∧ k = k'
  · rw [if_pos h1, if_pos ⟨.inr h1.1.symm, h1.2⟩]
  · rw [if_neg h1]
    by_cases h2 : 0 = s' ∧ k = k'
    · rw [if_pos h2, if_pos ⟨.inl h2.1.symm, h2.2⟩]
    · rw [if_neg h2, if_neg]
      rintro ⟨h3 | h3, h4⟩
      · exact h2 ⟨h3.symm, h4⟩
      · exact h1 ⟨h3.symm, h4⟩
theorem may2_iff (d : Dk) (k : Int) (t : ByteArray) : d.may2 k t = true ↔ 0 ≤ k ∧ k < d.a.length ∧ t.size ≤ 420 ∧ d.l.length ≤ 598 := by
  unfold Dk.may2
  rw [Bool.and_eq_true, decide_eq_true_eq, may_iff]
  omega
theorem Dk.add2_ok {d : Dk} (h : d.ok = true) {k : Int} {t : ByteArray} (hm : d.may2 k t = true) : (d.add2 k t).ok = true := by
  obtain ⟨m1, m2, m3, m4⟩ := (may2_iff d k t).1 hm
  have h0 : d.may 0 k t = true := (may_iff _ _ _ _).2 ⟨.inl rfl, m1, m2, m3, by omega⟩
  exact Dk.add_ok (Dk.add_ok h h0) (may2_one k t h0 m4)
theorem blkWrites_pos {d : Dk} {k : Int} {t : ByteArray} (h : blkWrites d k t = true) :
    d.ok = true ∧ d.may2 k t = true ∧ blkWrite d k t = d.add2 k t ∧ (blkWrite d k t).ok = true ∧ (blkWrite d k t).a.length = d.a.length ∧
    ∀ s' k', (blkWrite d k t).text s' k' = if (s' = 0 ∨ s' = 1) ∧ k = k' then t else d.text s' k' := by
  unfold blkWrites at h
  rw [Bool.and_eq_true] at h
  have e : blkWrite d k t = d.add2 k t := by unfold blkWrite; rw [if_pos h.1, if_pos h.2]
  rw [e]
  exact ⟨h.1, h.2, rfl, Dk.add2_ok h.1 h.2, rfl, d.add2_text k t⟩
theorem blk_same {d x : Dk} {p : Ptr} (h1 : x.ok = d.ok) (h2 : x.a.length = d.a.length) (h3 : ∀ s, x.text s p.at_ = d.text s p.at_) : blkRead x p = blkRead d p := by
  unfold blkRead Dk.has; rw [h1, h2, h3 0, h3 1]
theorem blkTo_real {k : Int} {t : ByteArray} {b : Int} (h1 : 1 ≤ k) (h2 : k ≤ 119) (h3 : 0 ≤ b) (h4 : b ≤ 1000000) : blkTo k t b = ⟨k, (sumOf t : Nat), b⟩ ∧ realB ⟨k, (sumOf t : Nat), b⟩ = true := by
  have hs := sumOf_lt t
  have e : realB ⟨k, (sumOf t : Nat), b⟩ = true := by
    unfold realB ptrOkB
    simp only [Bool.and_eq_true, Bool.or_eq_true, decide_eq_true_eq, Bool.not_eq_true', beq_eq_false_iff_ne, ne_eq]
    omega
  exact ⟨by unfold blkTo; rw [if_pos e], e⟩
theorem real_at {p : Ptr} (h : realB p = true) : 1 ≤ p.at_ ∧ p.at_ ≤ 119 := by
  unfold realB ptrOkB at h
  simp only [Bool.and_eq_true, Bool.or_eq_true, decide_eq_true_eq, Bool.not_eq_true', beq_eq_false_iff_ne, ne_eq] at h
  omega
theorem blk_fine {d : Dk} {p : Ptr} (h : d.ok = true) (hp : realB p = true) {t : ByteArray} (h0 : (d.has p 0 = true ∧ d.text 0 p.at_ = t) ∨ (d.has p 0 = false ∧ d.has p 1 = true ∧ d.text 1 p.at_ = t)) : blkRead d p = (t, 0) := by
  have := real_at hp
  unfold blkRead
  rw [if_neg (by omega), h, hp, Bool.and_self, if_pos rfl]
  rcases h0 with ⟨h1, h2⟩ | ⟨h1, h2, h3⟩
  · rw [if_pos h1, h2]
  · rw [h1, if_neg (by decide), if_pos h2, h3]
theorem has_iff (d : Dk) (p : Ptr) (s : Int) : d.has p s = true ↔ sector d.a.length s p.at_ = true ∧ (sumOf (d.text s p.at_) : Int) = p.sum := by
  unfold Dk.has; rw [Bool.and_eq_true, decide_eq_true_eq]
theorem flush_ok {x : Dk} (h : x.ok = true) : (dkFlush x).ok = true ∧ (dkFlush x).a.length = x.a.length ∧ (dkFlush x).l = [] ∧ ∀ s k, sector x.a.length s k = true → (dkFlush x).text s k = x.text s k := by
  have hl := (dkFall_len h (List.replicate x.l.length 1)).1
  have hl2 := (dkFall_small x (List.replicate x.l.length 1)).2.2
  rw [dkFall_all] at hl hl2
  refine ⟨dkFlush_ok h, hl, hl2, fun s k hs => ?_⟩
  have h1 := fall_read h x.l.length (Nat.le_refl _) s k hs
  rw [dkFall_all] at h1
  have h2 : dkReads (dkFlush x) s k = true := by unfold dkReads; rw [dkFlush_ok h, hl, hs]; rfl
  have h3 : dkRead (dkFlush x) s k = (dkFlush x).text s k := by unfold dkRead; rw [if_pos h2]
  rw [← h3, h1]; rfl
theorem flush_small (d : Dk) : (dkFlush d).a.length ≤ d.a.length ∧ (dkFlush d).b.length ≤ d.b.length ∧ (dkFlush d).l.length = 0 := by
  unfold dkFlush
  split
  · have := d.done_len d.l.length
    exact ⟨by show (d.done _).1.length ≤ _; omega, by show (d.done _).2.length ≤ _; omega, rfl⟩
  · exact ⟨Nat.zero_le _, Nat.zero_le _, rfl⟩
theorem same_refl {α : Type} (x : α) : same x x = true := by simp [same]
theorem fallen_flush (x : Dk) (fate : List Int) : dkFall (dkFlush x) fate = dkFlush x := by
  by_cases h : x.ok = true
  · have hok := dkFlush_ok h
    have e : dkFlush x = x.flushed := by unfold dkFlush; rw [if_pos h]
    unfold dkFall
    rw [if_pos hok, e]
    unfold Dk.fallen
    have : min x.flushed.l.length fate.length = 0 := Nat.min_eq_left (Nat.zero_le _)
    rw [this]; rfl
  · have e : dkFlush x = .nil := by unfold dkFlush; rw [if_neg h]
    rw [e]; unfold dkFall; rw [show Dk.nil.ok = false by decide]; rfl
/-- One block written: no other one is disturbed. -/
theorem one_all {d : Dk} {k : Int} {t : ByteArray} (h : blkWrites d k t = true) :
    (∀ (i : Int) (b : Int), 1 ≤ i → i < d.a.length → 0 ≤ b → b ≤ 9 → i ≠ k → blkRead (blkWrite d k t) (blkTo i (dkRead d 0 i) b) = blkRead d (blkTo i (dkRead d 0 i) b)) ∧
    (1 ≤ k → blkRead (dkFlush (blkWrite d k t)) (blkTo k t 1) = (t, 0)) := by
  obtain ⟨h1, h2, h3, h4, h5, h6⟩ := blkWrites_pos h
  obtain ⟨a1, a2, -⟩ := (Dk.ok_iff _).1 h1
  obtain ⟨m1, m2, m3, m4⟩ := (may2_iff _ _ _).1 h2
  constructor
  · intro i b hi1 hi2 hb1 hb2 hik
    obtain ⟨p1, p2⟩ := blkTo_real (t := dkRead d 0 i) hi1 (show i ≤ 119 by omega) hb1 (show b ≤ 1000000 by omega)
    rw [p1]
    refine blk_same (by rw [h4, h1]) h5 fun s => ?_
    rw [h6, if_neg]
    rintro ⟨-, h⟩
    exact hik h.symm
  · intro hk
    obtain ⟨p1, p2⟩ := blkTo_real (t := t) hk (show k ≤ 119 by omega) (show (0:Int) ≤ 1 by decide) (by decide)
    rw [p1]
    obtain ⟨f1, f2, -, f3⟩ := flush_ok h4
    have hs : sector (blkWrite d k t).a.length 0 k = true := (sector_iff _ _ _).2 ⟨.inl rfl, m1, by omega⟩
    have ht : (dkFlush (blkWrite d k t)).text 0 k = t := by rw [f3 _ _ hs, h6, if_pos ⟨.inl rfl, rfl⟩]
    refine blk_fine f1 p2 (.inl ⟨(has_iff _ _ _).2 ⟨by rw [f2]; exact hs, ?_⟩, ht⟩)
    rw [ht]
/-- A decayed copy is noticed, and repaired. -/
theorem heal_all {d : Dk} {k : Int} {t : ByteArray} (h : blkWrites d k t = true) (hk : 1 ≤ k) (side j m : Int) (hside : side = 0 ∨ side = 1) :
    blkRead (blkWrite d k t) (blkTo k t 1) = (t, 0) ∧ blkRead (dkRot (dkFlush (blkWrite d k t)) side k j m) (blkTo k t 1) = (t, 0) ∧
    (blkHeal (dkRot (dkFlush (blkWrite d k t)) side k j m) (blkTo k t 1)).2 = 0 ∧
    blkSide (blkHeal (dkRot (dkFlush (blkWrite d k t)) side k j m) (blkTo k t 1)).1 (blkTo k t 1) 0 = true ∧
    blkSide (blkHeal (dkRot (dkFlush (blkWrite d k t)) side k j m) (blkTo k t 1)).1 (blkTo k t 1) 1 = true ∧
    blkTo k t 1 = ⟨k, (sumOf t : Nat), 1⟩ ∧ ∀ s : Int, s ≠ (sumOf t : Nat) → (blkRead (dkFlush (blkWrite d k t)) ⟨k, s, 1⟩).2 = 2 := by
  obtain ⟨h1, h2, h3, h4, h5, h6⟩ := blkWrites_pos h
  obtain ⟨a1, a2, -⟩ := (Dk.ok_iff _).1 h1
  obtain ⟨m1, m2, m3, m4⟩ := (may2_iff _ _ _).1 h2
  obtain ⟨p1, p2⟩ := blkTo_real (t := t) hk (show k ≤ 119 by omega) (show (0:Int) ≤ 1 by decide) (by decide)
  obtain ⟨f1, f2, fl, f3⟩ := flush_ok h4
  rw [p1]
  have hs0 : sector (blkWrite d k t).a.length 0 k = true := (sector_iff _ _ _).2 ⟨.inl rfl, m1, by omega⟩
  have hs1 : sector (blkWrite d k t).a.length 1 k = true := (sector_iff _ _ _).2 ⟨.inr rfl, m1, by omega⟩
  have x0 : (blkWrite d k t).text 0 k = t := by rw [h6, if_pos ⟨.inl rfl, rfl⟩]
  have x1 : (blkWrite d k t).text 1 k = t := by rw [h6, if_pos ⟨.inr rfl, rfl⟩]
  have y0 : (dkFlush (blkWrite d k t)).text 0 k = t := by rw [f3 _ _ hs0, x0]
  have y1 : (dkFlush (blkWrite d k t)).text 1 k = t := by rw [f3 _ _ hs1, x1]
  obtain ⟨y, hy⟩ : ∃ y, dkFlush (blkWrite d k t) = y := ⟨_, rfl⟩
  rw [hy] at f1 f2 fl f3 y0 y1 ⊢
  have ya : y.a.length = d.a.length := by rw [f2, h5]
  obtain ⟨r1, r2, r3⟩ := And.intro (dkRot_ok f1 side k j m) (dkRot_len f1 side k j m)
  have hrot := dkRot_at f1 side k j m k.toNat (by omega)
  obtain ⟨z, hz⟩ : ∃ z, dkRot y side k j m = z := ⟨_, rfl⟩
  rw [hz] at r1 r2 r3 hrot ⊢
  have hnum : ∀ (u : Dk) (s : Int), u.l = [] → u.text s k = (if s = 0 then u.a.getD k.toNat ET.str.dflt else u.b.getD k.toNat ET.str.dflt) := by
    intro u s hu
    unfold Dk.text
    rw [hu]
    show lateText [] s k (sec (u.a, u.b) s k) 0 = _
    unfold sec; rfl
  have zl : z.l = [] := by rw [r3.2, fl]
  have ny0 := hnum y 0 fl
  have ny1 := hnum y 1 fl
  have nz0 := hnum z 0 zl
  have nz1 := hnum z 1 zl
  rw [if_pos rfl] at ny0 nz0
  rw [if_neg (by decide)] at ny1 nz1
  rw [← ny0, ← ny1, ← nz0, ← nz1, y0, y1] at hrot
  obtain ⟨q0, q1⟩ := hrot
  have zs0 : sector z.a.length 0 k = true := (sector_iff _ _ _).2 ⟨.inl rfl, m1, by omega⟩
  have zs1 : sector z.a.length 1 k = true := (sector_iff _ _ _).2 ⟨.inr rfl, m1, by omega⟩
  have hb : ∀ (u : Dk) (s : Int), sector u.a.length s k = true → u.text s k = t → u.has ⟨k, (sumOf t : Nat), 1⟩ s = true := by
    intro u s hs ht
    exact (has_iff _ _ _).2 ⟨hs, by rw [ht]⟩
  have w0 : z.has ⟨k, (sumOf t : Nat), 1⟩ 0 = true ∧ z.text 0 k = t ∨ z.has ⟨k, (sumOf t : Nat), 1⟩ 0 = false ∧ side = 0 := by
    by_cases hc : z.text 0 k = t
    · exact .inl ⟨hb z 0 zs0 hc, hc⟩
    · obtain ⟨-, c1, -, c2⟩ := q0 hc
      refine .inr ⟨?_, c1⟩
      rw [← Bool.not_eq_true]
      intro hh
      have := ((has_iff _ _ _).1 hh).2
      exact c2 (by simp only at this; omega)
  have w1 : z.has ⟨k, (sumOf t : Nat), 1⟩ 1 = true ∧ z.text 1 k = t ∨ z.has ⟨k, (sumOf t : Nat), 1⟩ 1 = false ∧ side = 1 := by
    by_cases hc : z.text 1 k = t
    · exact .inl ⟨hb z 1 zs1 hc, hc⟩
    · obtain ⟨-, c1, -, c2⟩ := q1 hc
      refine .inr ⟨?_, c1⟩
      rw [← Bool.not_eq_true]
      intro hh
      have := ((has_iff _ _ _).1 hh).2
      exact c2 (by simp only at this; omega)
  have hread : blkRead z ⟨k, (sumOf t : Nat), 1⟩ = (t, 0) := by
    refine blk_fine r1 p2 ?_
    rcases w0 with w0 | ⟨w0, rfl⟩
    · exact .inl w0
    · rcases w1 with w1 | ⟨_, w1⟩
      · exact .inr ⟨w0, w1⟩
      · exact absurd w1 (by decide)
  have zl0 : z.l.length = 0 := by rw [zl]; rfl
  have hside2 : ∀ (u : Dk) (s : Int), u.ok = true → u.has ⟨k, (sumOf t : Nat), 1⟩ s = true → blkSide u ⟨k, (sumOf t : Nat), 1⟩ s = true := by
    intro u s h1 h2; unfold blkSide; rw [h1, h2, p2]; rfl
  have hheal : (blkHeal z ⟨k, (sumOf t : Nat), 1⟩).2 = 0 ∧ blkSide (blkHeal z ⟨k, (sumOf t : Nat), 1⟩).1 ⟨k, (sumOf t : Nat), 1⟩ 0 = true ∧ blkSide (blkHeal z ⟨k, (sumOf t : Nat), 1⟩).1 ⟨k, (sumOf t : Nat), 1⟩ 1 = true := by
    unfold blkHeal
    rw [if_pos r1, hread]
    by_cases hc : z.has ⟨k, (sumOf t : Nat), 1⟩ 0 = z.has ⟨k, (sumOf t : Nat), 1⟩ 1
    · rw [if_pos (.inr hc)]
      rcases w0 with w0 | ⟨w0, rfl⟩
      · exact ⟨rfl, hside2 z 0 r1 w0.1, hside2 z 1 r1 (hc ▸ w0.1)⟩
      · rcases w1 with w1 | ⟨_, w1⟩
        · rw [w0, w1.1] at hc; cases hc
        · exact absurd w1 (by decide)
    · rw [if_neg (by rintro (hh | hh); exact hh rfl; exact hc hh)]
      have hbs : badSide z ⟨k, (sumOf t : Nat), 1⟩ = 0 ∨ badSide z ⟨k, (sumOf t : Nat), 1⟩ = 1 := by unfold badSide; split <;> simp
      have hmay : z.may (badSide z ⟨k, (sumOf t : Nat), 1⟩) k t = true := (may_iff _ _ _ _).2 ⟨hbs, m1, by omega, m3, by omega⟩
      simp only [hmay, if_true]
      refine ⟨trivial, ?_, ?_⟩
      · refine hside2 _ 0 (Dk.add_ok r1 hmay) (hb _ 0 zs0 ?_)
        rw [Dk.add_text]
        unfold badSide
        rcases w0 with w0 | ⟨w0, _⟩
        · simp [w0.1, w0.2]
        · simp [w0]
      · refine hside2 _ 1 (Dk.add_ok r1 hmay) (hb _ 1 zs1 ?_)
        rw [Dk.add_text]
        unfold badSide
        rcases w0 with w0 | ⟨w0, rfl⟩
        · simp [w0.1]
        · rcases w1 with w1 | ⟨_, w1⟩
          · simp [w0, w1.2]
          · exact absurd w1 (by decide)
  refine ⟨blk_fine h4 p2 (.inl ⟨hb _ 0 hs0 x0, x0⟩), hread, hheal.1, hheal.2.1, hheal.2.2, rfl, fun s hs => ?_⟩
  unfold blkRead
  rw [if_neg (by simp only; omega)]
  have n0 : ∀ u, y.text u k = t → y.has ⟨k, s, 1⟩ u = false := by
    intro u hu
    rw [← Bool.not_eq_true]
    intro hh
    have := ((has_iff _ _ _).1 hh).2
    simp only [hu] at this
    exact hs this.symm
  rw [n0 0 y0, n0 1 y1]
  split <;> rfl
end Go.Proofs.YtjedcphhajlnoaaGreatDoor
/- Plain facts: how large the disks are that come out. -/
namespace Go.Proofs.YtjedcphhajlnoaaGreatDoor
open Go.RowKit

/-- No larger than a million and a bit. -/
structure Dk.mid (d : Dk) : Prop where
  a : d.a.length ≤ 1100000
  b : d.b.length ≤ 1100000
  l : d.l.length ≤ 1100000
theorem mid_rot {d : Dk} (s i k m : Int) : (dkRot d s i k m).mid := by
  by_cases hok : d.ok = true
  · have := Dk.ok_small (dkRot_ok hok s i k m)
    exact ⟨by omega, by omega, by omega⟩
  · unfold dkRot; rw [if_neg hok]; exact ⟨Nat.zero_le _, Nat.zero_le _, Nat.zero_le _⟩
theorem mid_flush {d : Dk} (h : d.a.length ≤ 1048576 ∧ d.b.length ≤ 1048576 ∧ d.l.length ≤ 1048576) : (dkFlush d).mid := by
  obtain ⟨h1, h2, h3⟩ := flush_small d
  exact ⟨by omega, by omega, by omega⟩
theorem mid_write {d : Dk} (h : d.a.length ≤ 1048576 ∧ d.b.length ≤ 1048576 ∧ d.l.length ≤ 1048576) (s k : Int) (t : ByteArray) : (dkWrite d s k t).mid := by
  obtain ⟨h1, h2, h3⟩ := write_small d s k t
  exact ⟨by omega, by omega, by omega⟩
theorem mid_blk {d : Dk} (h : d.a.length ≤ 1048576 ∧ d.b.length ≤ 1048576 ∧ d.l.length ≤ 1048576) (k : Int) (t : ByteArray) : (blkWrite d k t).mid := by
  unfold blkWrite
  split
  · split
    · refine ⟨show d.a.length ≤ _ by omega, show d.b.length ≤ _ by omega, ?_⟩
      show (d.l ++ [_] ++ [_]).length ≤ _
      simp; omega
    · exact ⟨by omega, by omega, by omega⟩
  · exact ⟨Nat.zero_le _, Nat.zero_le _, Nat.zero_le _⟩
theorem mid_heal {d : Dk} (h : d.a.length ≤ 1048576 ∧ d.b.length ≤ 1048576 ∧ d.l.length ≤ 1048576) (p : Ptr) : (blkHeal d p).1.mid := by
  unfold blkHeal
  repeat' split
  all_goals first | exact ⟨show d.a.length ≤ _ by omega, show d.b.length ≤ _ by omega, show d.l.length ≤ _ by omega⟩ | exact ⟨Nat.zero_le _, Nat.zero_le _, Nat.zero_le _⟩ | (refine ⟨show d.a.length ≤ _ by omega, show d.b.length ≤ _ by omega, ?_⟩; show (d.l ++ [_]).length ≤ _; simp; omega)
theorem mid_fall {d : Dk} (h : d.a.length ≤ 1048576 ∧ d.b.length ≤ 1048576 ∧ d.l.length ≤ 1048576) (f : List Int) : (dkFall d f).mid := by
  obtain ⟨h1, h2, h3⟩ := dkFall_small d f
  exact ⟨by omega, by omega, by rw [h3]; simp⟩
end Go.Proofs.YtjedcphhajlnoaaGreatDoor
/- Functions: the reference's blocks, read and healed. -/
namespace Go.Proofs.YtjedcphhajlnoaaGreatDoor
open Go.RowKit

theorem sum_step2 (s : ByteArray) (i : Nat) (hi : i < s.size) : (IntKind.i64.wrap (IntKind.i64.wrap (IntKind.i64.wrap ((sumAt s i : Int) * 257) + IntKind.i64.wrap ((s.data.getD i 0).toNat : Int)) + 1)).tmod 65521 = (sumAt s (i + 1) : Nat) := by
  rw [Int.mul_comm]
  exact sum_step s i hi
@[go_sem] def sgSum2 (s : ByteArray) (i : Nat) : Sg := ⟨[(0, .one (.val (.string s))), (3, vi (sumAt s i)), (4, vi i)], [], []⟩
theorem s_specSum_e : EnterOk Tryz.prog 169 := ⟨_, Tryz.func169, rfl, by decide⟩
@[go_sem] def s_specSum_lv : List (List Nat) := [[0], [0, 3], [0, 3, 4], [0, 3, 4, 12], [0, 3, 4], [0, 3, 4], [2]]
@[go_sem] noncomputable def s_specSum_K : Known := Known.nil
set_option maxHeartbeats 8000000 in
theorem s_specSum : Sound Tryz.prog 169 ctSumOf := by
  have ke := s_specSum_K.env []
  have kl : Lives s_specSum_lv := trivial
  refine sound_intro (E := ⟨ti, s_specSum_K.Γ, []⟩) ke Tryz.func169 Tryz.ntmps169 rfl (rs := [.tmp 2]) rfl ?_
  intro args os hp
  unfold ctSumOf at hp ⊢
  dsimp only at hp ⊢
  split at hp
  · rename_i s
    refine ⟨by simp, fun φ0 w0 => ?_⟩
    have hlen : s.size ≤ 1000000000 := hp
    clear hp
    have hf := sum_first s hlen
    refine goh hf ?_
    refine W_le (σ' := sgSum2 s 0) [] (by
      simp only [go_sem, hf, inj_r, ↓reduceIte, reduceCtorEq, Nat.reduceAdd, Nat.reduceLT, Nat.reduceLeDiff, Nat.reduceEqDiff, Int.reduceEq]
      all_goals (repeat' refine And.intro ?_ ?_) <;> try exact shut7
      ) ?_
    refine W_loop (fun n σ => ∃ i : Nat, i ≤ s.size ∧ n = s.size - i ∧ σ = sgSum2 s i) s.size ⟨0, by omega, by omega, rfl⟩ ?_
    rintro n σ ⟨i, hi, rfl, rfl⟩
    unfold sgSum2
    refine goh trivial ?_
    refine W_cnd ?_ ?_ <;> (try simp only [cnd_r]) <;> intro hlt
    · have hs := sum_step2 s i (by omega)
      refine goh hs ?_
      refine ⟨s.size - (i + 1), [], sgSum2 s (i + 1), by omega, ?_, i + 1, by omega, rfl, rfl⟩
      exact leh hs
    · obtain rfl : i = s.size := by omega
      refine goh trivial ?_
      refine ⟨by (simp only [go_sem, sumOf, ↓reduceIte, reduceCtorEq, Nat.reduceAdd, Nat.reduceLT, Nat.reduceLeDiff, Nat.reduceEqDiff]) <;> trivial, [], ?_⟩
      all_goals try simp only [go_sem, sumOf, inj_r, ↓reduceIte, reduceCtorEq, Nat.reduceAdd, Nat.reduceLT, Nat.reduceLeDiff, Nat.reduceEqDiff, Int.reduceEq]
      all_goals (repeat' refine And.intro ?_ ?_) <;> try exact shut7
  · simp [no, ifp] at hp
theorem s_specText_e : EnterOk Tryz.prog 161 := ⟨_, Tryz.func161, rfl, by decide⟩
@[go_sem] def s_specText_lv : List (List Nat) := [[1, 2, 3], [1, 2, 3, 7], [1, 2, 3, 7, 13], [1, 2, 3, 7], [1, 2, 3, 7, 33], [6], [6]]
@[go_sem] noncomputable def s_specText_K : Known := Known.nil
set_option maxHeartbeats 8000000 in
theorem s_specText : Sound Tryz.prog 161 ctTextOf := by
  have ke := s_specText_K.env []
  have kl : Lives s_specText_lv := trivial
  refine sound_intro (E := ⟨ti, s_specText_K.Γ, []⟩) ke Tryz.func161 Tryz.ntmps161 rfl (rs := [.tmp 6]) rfl ?_
  intro args os hp
  unfold ctTextOf at hp ⊢
  dsimp only at hp ⊢
  split at hp
  · rename_i a b l s k
    refine ⟨by simp, fun φ0 w0 => ?_⟩
    obtain ⟨⟨h1, h2, h3⟩, hab, hs⟩ : (a.length ≤ 4000000 ∧ b.length ≤ 4000000 ∧ l.length ≤ 4000000) ∧ b.length = a.length ∧ sector a.length s k = true := hp
    obtain ⟨ws, w1, w2⟩ := (sector_iff _ _ _).1 hs
    have hw : IntKind.i64.wrap ((l.length : Int) - 1) = (l.length : Int) - 1 := wrap_id _ (by omega) (by omega)
    refine goh hw ?_
    refine W_le (σ' := sgTx a b l s k l.length) [some 0] (by
      simp only [go_sem, inj_r, ↓reduceIte, reduceCtorEq, Nat.reduceAdd, Nat.reduceLT, Nat.reduceLeDiff, Nat.reduceEqDiff, Int.reduceEq]
      all_goals (repeat' refine And.intro ?_ ?_) <;> try exact shut7
      ) ?_
    refine W_loop (fun n σ => n ≤ l.length ∧ lateText l s k (sec (a, b) s k) n = (Dk.mk a b l).text s k ∧ σ = sgTx a b l s k n) l.length ⟨Nat.le_refl _, rfl, rfl⟩ ?_
    rintro n σ ⟨hn, ht, rfl⟩
    unfold sgTx
    refine goh trivial ?_
    refine W_cnd ?_ ?_ <;> (try simp only [cnd_r]) <;> intro hlt
    · obtain ⟨m, rfl⟩ : ∃ m, n = m + 1 := ⟨n - 1, by omega⟩
      have e1 : ((m + 1 : Nat) : Int) - 1 = (m : Int) := by omega
      have e2 : IntKind.i64.wrap ((m : Int) - 1) = (m : Int) - 1 := wrap_id _ (by omega) (by omega)
      refine goh e1 ?_
      refine W_cnd ?_ ?_ <;> (try simp only [cnd_r]) <;> intro hc
      · have ht2 : lateText l s k (sec (a, b) s k) (m + 1) = (ET.late.at l m).text := if_pos hc
        refine goh trivial ?_
        refine ⟨by (simp only [go_sem, ↓reduceIte, reduceCtorEq, Nat.reduceAdd, Nat.reduceLT, Nat.reduceLeDiff, Nat.reduceEqDiff]) <;> trivial, [], ?_⟩
        all_goals try simp only [go_sem, inj_r, ↓reduceIte, reduceCtorEq, Nat.reduceAdd, Nat.reduceLT, Nat.reduceLeDiff, Nat.reduceEqDiff, Int.reduceEq]
        all_goals (repeat' refine And.intro ?_ ?_) <;> try exact shut7
        rw [← ht, ht2]; rfl
      · have ht2 : lateText l s k (sec (a, b) s k) (m + 1) = lateText l s k (sec (a, b) s k) m := by
          refine if_neg ?_
          rintro ⟨q1, q2⟩
          rcases hc with h | h
          · exact h q1
          · rw [beq_eq_false_iff_ne] at h; exact h q2
        refine goh e2 ?_
        refine ⟨m, [some 0], sgTx a b l s k m, by omega, ?_, by omega, ht2 ▸ ht, rfl⟩
        exact leh trivial
    · obtain rfl : n = 0 := by omega
      rcases ws with rfl | rfl
      all_goals
        refine goh trivial ?_
        refine ⟨by (simp only [go_sem, ← ht, lateText, sec, ↓reduceIte, reduceCtorEq, Nat.reduceAdd, Nat.reduceLT, Nat.reduceLeDiff, Nat.reduceEqDiff]) <;> trivial, [], ?_⟩
        all_goals try simp only [go_sem, ← ht, lateText, sec, inj_r, ↓reduceIte, reduceCtorEq, Nat.reduceAdd, Nat.reduceLT, Nat.reduceLeDiff, Nat.reduceEqDiff, Int.reduceEq]
        all_goals (repeat' refine And.intro ?_ ?_) <;> try exact shut7
  · simp [no, ifp] at hp
theorem s_specRead_e : EnterOk Tryz.prog 111 := ⟨_, Tryz.func111, rfl, by decide⟩
@[go_sem] def s_specRead_lv : List (List Nat) := [[1, 2, 3], [1, 2, 3, 17], [6, 7], [6, 7]]
@[go_sem] noncomputable def s_specRead_K : Known := (((Known.nil).cons 28 ctDiskOk s_specDiskOk s_specDiskOk_e).cons 93 ctThere s_there s_there_e).cons 161 ctTextOf s_specText s_specText_e
set_option maxHeartbeats 8000000 in
theorem s_specRead : Sound Tryz.prog 111 ctDiskRead := by
  have ke := s_specRead_K.env []
  have kl : Lives s_specRead_lv := trivial
  refine sound_intro (E := ⟨ti, s_specRead_K.Γ, []⟩) ke Tryz.func111 Tryz.ntmps111 rfl (rs := [.tmp 6, .tmp 7]) rfl ?_
  intro args os hp
  unfold ctDiskRead at hp ⊢
  dsimp only at hp ⊢
  split at hp
  · rename_i a b l s k
    refine ⟨by simp, fun φ0 w0 => ?_⟩
    obtain ⟨h1, h2, h3⟩ : a.length ≤ 4000000 ∧ b.length ≤ 4000000 ∧ l.length ≤ 4000000 := hp
    have e1 : dkReads ⟨a, b, l⟩ s k = ((Dk.mk a b l).ok && sector a.length s k) := rfl
    have e2 : dkRead ⟨a, b, l⟩ s k = if dkReads ⟨a, b, l⟩ s k then (Dk.mk a b l).text s k else ⟨#[]⟩ := rfl
    have e4 := fits_sector a.length s k
    refine goh e4 ?_
    refine W_cnd ?_ ?_ <;> (try simp only [cnd_r]) <;> intro hc
    · have e3 : dkReads ⟨a, b, l⟩ s k = false := by
        rw [e1]
        rcases hc with h | h <;> simp [h]
      refine goh trivial ?_
      exact finh [] (And.intro e2 e3)
    · obtain ⟨hok, hs⟩ : (Dk.mk a b l).ok = true ∧ sector a.length s k = true := by simpa using hc
      have e3 : dkReads ⟨a, b, l⟩ s k = true := by rw [e1, hok, hs]; rfl
      obtain ⟨-, -, hab, -⟩ := (Dk.ok_iff _).1 hok
      simp only at hab
      refine goh trivial ?_
      exact finh [] (And.intro e2 e3)
  · simp [no, ifp] at hp
theorem ptrOk_zero {a s b : Int} (h : a = 0) : ptrOkB ⟨a, s, b⟩ = (decide (a = 0) && decide (s = 0) && decide (b = 0)) := by
  subst h; unfold ptrOkB; simp
theorem s_specPtrOk_e : EnterOk Tryz.prog 25 := ⟨_, Tryz.func25, rfl, by decide⟩
@[go_sem] def s_specPtrOk_lv : List (List Nat) := [[1], [1, 5], [2], [2]]
@[go_sem] noncomputable def s_specPtrOk_K : Known := Known.nil
set_option maxHeartbeats 8000000 in
theorem s_specPtrOk : Sound Tryz.prog 25 ctPtrOk := by
  have ke := s_specPtrOk_K.env []
  have kl : Lives s_specPtrOk_lv := trivial
  refine sound_intro (E := ⟨ti, s_specPtrOk_K.Γ, []⟩) ke Tryz.func25 Tryz.ntmps25 rfl (rs := [.tmp 2]) rfl ?_
  intro args os hp
  unfold ctPtrOk at hp ⊢
  dsimp only at hp ⊢
  split at hp
  · rename_i a s b
    refine ⟨by simp, fun φ0 w0 => ?_⟩
    clear hp
    refine goh trivial ?_
    refine W_cnd ?_ ?_ <;> (try simp only [cnd_r]) <;> intro hc
    · refine goh trivial ?_
      refine ⟨by (simp only [go_sem, ↓reduceIte, reduceCtorEq, Nat.reduceAdd, Nat.reduceLT, Nat.reduceLeDiff, Nat.reduceEqDiff]) <;> trivial, [], ?_⟩
      all_goals try simp only [go_sem, inj_r, ↓reduceIte, reduceCtorEq, Nat.reduceAdd, Nat.reduceLT, Nat.reduceLeDiff, Nat.reduceEqDiff, Int.reduceEq]
      all_goals (repeat' refine And.intro ?_ ?_) <;> try exact shut7
      rw [same_ptr, ptrOk_zero hc]
    · refine goh trivial ?_
      refine ⟨by (simp only [go_sem, ↓reduceIte, reduceCtorEq, Nat.reduceAdd, Nat.reduceLT, Nat.reduceLeDiff, Nat.reduceEqDiff]) <;> trivial, [], ?_⟩
      all_goals try simp only [go_sem, inj_r, ↓reduceIte, reduceCtorEq, Nat.reduceAdd, Nat.reduceLT, Nat.reduceLeDiff, Nat.reduceEqDiff, Int.reduceEq]
      all_goals (repeat' refine And.intro ?_ ?_) <;> try exact shut7
      rw [ptrOkB, Bool.eq_iff_iff]
      simp only [Bool.if_true_left, Bool.if_false_right, Bool.or_eq_true, Bool.and_eq_true, decide_eq_true_eq, Bool.decide_eq_true, and_assoc]
      have hc2 : a ≠ 0 := by simpa using hc
      omega
  · simp [no] at hp
theorem dkRead_size (d : Dk) (s k : Int) : (dkRead d s k).size ≤ 420 := by
  unfold dkRead
  split
  · rename_i h
    unfold dkReads at h
    rw [Bool.and_eq_true] at h
    exact Dk.text_size h.1 s k
  · exact Nat.zero_le _
theorem side_eq (d : Dk) (a s b i : Int) : blkSide d ⟨a, s, b⟩ i = (dkReads d i a && ptrOkB ⟨a, s, b⟩ && decide (a > 0) && decide ((sumOf (dkRead d i a) : Int) = s)) := by
  unfold blkSide realB Dk.has
  by_cases h : dkReads d i a = true
  · have h2 : dkRead d i a = d.text i a := by unfold dkRead; rw [if_pos h]
    have h3 := h
    unfold dkReads at h3
    rw [Bool.and_eq_true] at h3
    rw [h, h2, h3.1]
    simp only [h3.2, Bool.true_and]
    by_cases hp : ptrOkB ⟨a, s, b⟩ = true
    · have e : (!(a == 0)) = decide (a > 0) := by
        rw [Bool.eq_iff_iff]
        unfold ptrOkB at hp
        simp only [Bool.and_eq_true, Bool.or_eq_true, decide_eq_true_eq, Bool.not_eq_true', beq_eq_false_iff_ne, ne_eq] at hp ⊢
        omega
      rw [hp, e]
    · rw [show ptrOkB ⟨a, s, b⟩ = false by simpa using hp]; simp
  · rw [show dkReads d i a = false by simpa using h]
    have h3 : (d.ok && sector d.a.length i a) = false := by unfold dkReads at h; simpa using h
    simp only [Bool.false_and]
    rw [Bool.and_eq_false_iff] at h3
    rcases h3 with h3 | h3 <;> simp [h3]
theorem s_specSide_e : EnterOk Tryz.prog 84 := ⟨_, Tryz.func84, rfl, by decide⟩
@[go_sem] def s_specSide_lv : List (List Nat) := [[2, 3, 4], [4, 7, 8], [6]]
@[go_sem] noncomputable def s_specSide_K : Known := (((Known.nil).cons 111 ctDiskRead s_specRead s_specRead_e).cons 25 ctPtrOk s_specPtrOk s_specPtrOk_e).cons 169 ctSumOf s_specSum s_specSum_e
set_option maxHeartbeats 8000000 in
theorem s_specSide : Sound Tryz.prog 84 ctBlkSide := by
  have ke := s_specSide_K.env []
  have kl : Lives s_specSide_lv := trivial
  refine sound_intro (E := ⟨ti, s_specSide_K.Γ, []⟩) ke Tryz.func84 Tryz.ntmps84 rfl (rs := [.tmp 6]) rfl ?_
  intro args os hp
  unfold ctBlkSide at hp ⊢
  dsimp only at hp ⊢
  split at hp
  · rename_i a b l pa ps pb s
    refine ⟨by simp, fun φ0 w0 => ?_⟩
    obtain ⟨h1, h2, h3⟩ : a.length ≤ 4000000 ∧ b.length ≤ 4000000 ∧ l.length ≤ 4000000 := hp
    have e := side_eq ⟨a, b, l⟩ pa ps pb s
    have hz := dkRead_size ⟨a, b, l⟩ s pa
    refine goh trivial ?_
    refine ⟨by (simp only [go_sem, ↓reduceIte, reduceCtorEq, Nat.reduceAdd, Nat.reduceLT, Nat.reduceLeDiff, Nat.reduceEqDiff]) <;> trivial, [], ?_⟩
    all_goals try simp only [go_sem, inj_r, ↓reduceIte, reduceCtorEq, Nat.reduceAdd, Nat.reduceLT, Nat.reduceLeDiff, Nat.reduceEqDiff, Int.reduceEq]
    all_goals (repeat' refine And.intro ?_ ?_) <;> try exact shut7
    rw [e]
    cases dkReads ⟨a, b, l⟩ s pa <;> cases ptrOkB ⟨pa, ps, pb⟩ <;> first | rfl | (simp; done) | (simp; rfl)
  · simp [no, ifp] at hp
theorem ptrOk_at {a s b : Int} : (ptrOkB ⟨a, s, b⟩ = true ∧ a = 0) ↔ (a = 0 ∧ s = 0 ∧ b = 0) := by
  constructor
  · rintro ⟨h, rfl⟩
    rw [ptrOk_zero rfl] at h
    simpa using h
  · rintro ⟨rfl, rfl, rfl⟩; exact ⟨by decide, rfl⟩
theorem read_side (d : Dk) (a s b : Int) (h : ¬ (a = 0 ∧ s = 0 ∧ b = 0)) : blkRead d ⟨a, s, b⟩ = if blkSide d ⟨a, s, b⟩ 0 = true then (d.text 0 a, 0) else if blkSide d ⟨a, s, b⟩ 1 = true then (d.text 1 a, 0) else (⟨#[]⟩, 2) := by
  unfold blkRead blkSide
  rw [if_neg h]
  cases d.ok <;> cases realB ⟨a, s, b⟩ <;> simp
theorem side_sector {d : Dk} {a s b i : Int} (h : blkSide d ⟨a, s, b⟩ i = true) : d.ok = true ∧ sector d.a.length i a = true := by
  unfold blkSide Dk.has at h
  simp only [Bool.and_eq_true] at h
  exact ⟨h.1.1, h.2.1⟩
theorem side_has {d : Dk} {p : Ptr} (h : (blkRead d p).2 = 0) (i : Int) : blkSide d p i = d.has p i := by
  unfold blkRead at h
  split at h
  · simp at h
  · split at h
    · rename_i h2
      unfold blkSide; rw [h2, Bool.true_and]
    · simp at h
@[go_sem] def sgSr (a b : List ByteArray) (l : List Late) (pa ps pb i : Int) : Sg := ⟨[(2, .one (.ptr 0 0)), (3, .one (.ptr 1 0)), (6, vi i)], [some (.cells [.isl .str a, .isl .str b, .isl .late l]), some (.cells [.val (.int .i64 pa), .val (.int .i64 ps), .val (.int .i64 pb)])], []⟩
theorem s_specBlkRead_e : EnterOk Tryz.prog 75 := ⟨_, Tryz.func75, rfl, by decide⟩
@[go_sem] def s_specBlkRead_lv : List (List Nat) := [[2, 3], [2, 3, 13], [4, 5], [2, 3, 6], [2, 3, 6, 15], [2, 3, 6], [2, 3, 6, 21], [4, 5], [4, 5]]
@[go_sem] noncomputable def s_specBlkRead_K : Known := (((Known.nil).cons 25 ctPtrOk s_specPtrOk s_specPtrOk_e).cons 84 ctBlkSide s_specSide s_specSide_e).cons 161 ctTextOf s_specText s_specText_e
set_option maxHeartbeats 8000000 in
theorem s_specBlkRead : Sound Tryz.prog 75 ctBlkRead := by
  have ke := s_specBlkRead_K.env []
  have kl : Lives s_specBlkRead_lv := trivial
  refine sound_intro (E := ⟨ti, s_specBlkRead_K.Γ, []⟩) ke Tryz.func75 Tryz.ntmps75 rfl (rs := [.tmp 4, .tmp 5]) rfl ?_
  intro args os hp
  unfold ctBlkRead at hp ⊢
  dsimp only at hp ⊢
  split at hp
  · rename_i a b l pa ps pb
    refine ⟨by simp, fun φ0 w0 => ?_⟩
    obtain ⟨h1, h2, h3⟩ : a.length ≤ 4000000 ∧ b.length ≤ 4000000 ∧ l.length ≤ 4000000 := hp
    refine goh trivial ?_
    refine W_cond _ (by exact rfl) (by exact trivial) ?_ ?_ <;> intro hc
    · have hz : pa = 0 ∧ ps = 0 ∧ pb = 0 := ptrOk_at.1 (by simpa using hc)
      have e : blkRead ⟨a, b, l⟩ ⟨pa, ps, pb⟩ = (⟨#[]⟩, 1) := by unfold blkRead; rw [if_pos hz]
      refine goh trivial ?_
      exact finh [] e
    · have hz : ¬ (pa = 0 ∧ ps = 0 ∧ pb = 0) := fun h => by
        have := ptrOk_at.2 h
        rw [this.1, this.2] at hc
        simp at hc
      have e := read_side ⟨a, b, l⟩ pa ps pb hz
      refine goh trivial ?_
      refine W_le (σ' := sgSr a b l pa ps pb 0) [some 0, some 1] (by
        simp only [go_sem, inj_r, ↓reduceIte, reduceCtorEq, Nat.reduceAdd, Nat.reduceLT, Nat.reduceLeDiff, Nat.reduceEqDiff, Int.reduceEq]
        all_goals (repeat' refine And.intro ?_ ?_) <;> try exact shut7
        ) ?_
      refine W_loop (fun q σ => (q = 2 ∧ σ = sgSr a b l pa ps pb 0) ∨ (q = 1 ∧ blkSide ⟨a, b, l⟩ ⟨pa, ps, pb⟩ 0 = false ∧ σ = sgSr a b l pa ps pb 1) ∨ (q = 0 ∧ blkSide ⟨a, b, l⟩ ⟨pa, ps, pb⟩ 0 = false ∧ blkSide ⟨a, b, l⟩ ⟨pa, ps, pb⟩ 1 = false ∧ σ = sgSr a b l pa ps pb 2)) 2 (.inl ⟨rfl, rfl⟩) ?_
      rintro q σ (⟨rfl, rfl⟩ | ⟨rfl, n0, rfl⟩ | ⟨rfl, n0, n1, rfl⟩)
      · unfold sgSr
        refine goh trivial ?_
        refine W_cnd ?_ ?_ <;> intro hlit <;> try (cases hlit; done)
        refine goh trivial ?_
        refine W_cond _ (by exact rfl) (by exact trivial) ?_ ?_ <;> intro hs
        · obtain ⟨hok, hsec⟩ := side_sector hs
          obtain ⟨-, -, hab, -⟩ := (Dk.ok_iff _).1 hok
          simp only at hab hsec
          rw [if_pos hs] at e
          refine goh trivial ?_
          exact finh [] e
        · refine goh trivial ?_
          refine ⟨1, [some 0, some 1], sgSr a b l pa ps pb 1, by omega, ?_, .inr (.inl ⟨rfl, hs, rfl⟩)⟩
          exact leh trivial
      · unfold sgSr
        refine goh trivial ?_
        refine W_cnd ?_ ?_ <;> intro hlit <;> try (cases hlit; done)
        refine goh trivial ?_
        refine W_cond _ (by exact rfl) (by exact trivial) ?_ ?_ <;> intro hs
        · obtain ⟨hok, hsec⟩ := side_sector hs
          obtain ⟨-, -, hab, -⟩ := (Dk.ok_iff _).1 hok
          simp only at hab hsec
          rw [n0, if_neg (by decide), if_pos hs] at e
          refine goh trivial ?_
          exact finh [] e
        · refine goh trivial ?_
          refine ⟨0, [some 0, some 1], sgSr a b l pa ps pb 2, by omega, ?_, .inr (.inr ⟨rfl, n0, hs, rfl⟩)⟩
          exact leh trivial
      · rw [n0, n1, if_neg (by decide), if_neg (by decide)] at e
        unfold sgSr
        refine goh trivial ?_
        refine W_cnd ?_ ?_ <;> intro hlit <;> try (cases hlit; done)
        refine goh trivial ?_
        exact finh [] e
  · simp [no, ifp] at hp
theorem s_specHeal_e : EnterOk Tryz.prog 22 := ⟨_, Tryz.func22, rfl, by decide⟩
@[go_sem] def s_specHeal_lv : List (List Nat) := [[2, 3, 4], [2, 3, 4, 15], [4, 5], [2, 3, 4, 6], [2, 3, 4, 6, 7], [2, 3, 4, 6, 7, 8, 9], [2, 3, 4, 6, 8, 9, 35], [4, 5], [2, 3, 4, 6, 8, 10], [2, 3, 4, 8, 10, 39], [2, 3, 4, 8, 10], [2, 4, 11, 12], [2, 4, 11, 50], [4, 5], [4, 5]]
@[go_sem] noncomputable def s_specHeal_K : Known := (((((Known.nil).cons 28 ctDiskOk s_specDiskOk s_specDiskOk_e).cons 84 ctBlkSide s_specSide s_specSide_e).cons 75 ctBlkRead s_specBlkRead s_specBlkRead_e).cons 85 ctOwn s_copy s_copy_e).cons 86 ctDiskWrite s_specWrite s_specWrite_e
set_option maxHeartbeats 8000000 in
theorem s_specHeal : Sound Tryz.prog 22 ctBlkHeal := by
  have ke := s_specHeal_K.env []
  have kl : Lives s_specHeal_lv := trivial
  refine sound_intro (E := ⟨ti, s_specHeal_K.Γ, []⟩) ke Tryz.func22 Tryz.ntmps22 rfl (rs := [.cell 4 39, .tmp 5]) rfl ?_
  intro args os hp
  unfold ctBlkHeal at hp ⊢
  dsimp only at hp ⊢
  split at hp
  · rename_i a b l pa ps pb
    refine ⟨by simp, fun φ0 w0 => ?_⟩
    obtain ⟨h1, h2, h3⟩ : a.length ≤ 4000000 ∧ b.length ≤ 4000000 ∧ l.length ≤ 4000000 := hp
    refine goh trivial ?_
    refine W_cnd ?_ ?_ <;> (try simp only [cnd_r]) <;> intro hok
    · have e1 : blkHeal ⟨a, b, l⟩ ⟨pa, ps, pb⟩ = (.nil, 2) := by unfold blkHeal; rw [if_neg (by rw [hok]; simp)]
      refine goh trivial ?_
      refine ⟨by (simp only [go_sem, e1, Dk.nil, ↓reduceIte, reduceCtorEq, Nat.reduceAdd, Nat.reduceLT, Nat.reduceLeDiff, Nat.reduceEqDiff]) <;> trivial, [none, none, none], ?_⟩
      all_goals try simp only [go_sem, e1, Dk.nil, inj_r, ↓reduceIte, reduceCtorEq, Nat.reduceAdd, Nat.reduceLT, Nat.reduceLeDiff, Nat.reduceEqDiff, Int.reduceEq]
      all_goals (repeat' refine And.intro ?_ ?_) <;> try exact shut7
    · by_cases hcode : (blkRead ⟨a, b, l⟩ ⟨pa, ps, pb⟩).2 = 0
      · have s0 := side_has hcode 0
        have s1 := side_has hcode 1
        obtain ⟨u, hu⟩ : ∃ u, (Dk.mk a b l).has ⟨pa, ps, pb⟩ 0 = u := ⟨_, rfl⟩
        obtain ⟨v, hv⟩ : ∃ v, (Dk.mk a b l).has ⟨pa, ps, pb⟩ 1 = v := ⟨_, rfl⟩
        have hbl : blkHeal ⟨a, b, l⟩ ⟨pa, ps, pb⟩ = if u = v then (⟨a, b, l⟩, 0) else if (Dk.mk a b l).may (if u then 1 else 0) pa (blkRead ⟨a, b, l⟩ ⟨pa, ps, pb⟩).1 then ((Dk.mk a b l).add (if u then 1 else 0) pa (blkRead ⟨a, b, l⟩ ⟨pa, ps, pb⟩).1, 0) else (⟨a, b, l⟩, 2) := by
          unfold blkHeal badSide
          rw [if_pos hok, hcode, hu, hv]
          simp
        rw [hu] at s0
        rw [hv] at s1
        obtain ⟨t, ht⟩ : ∃ t, (blkRead ⟨a, b, l⟩ ⟨pa, ps, pb⟩).1 = t := ⟨_, rfl⟩
        rw [ht] at hbl
        have cb1 : (false == true) = false := rfl
        have cb2 : (true == false) = false := rfl
        cases u <;> cases v
        · have hbl2 : blkHeal ⟨a, b, l⟩ ⟨pa, ps, pb⟩ = (⟨a, b, l⟩, 0) := hbl
          refine goh (And.intro hcode (And.intro s0 s1)) ?_
          refine W_cnd ?_ ?_ <;> intro hlit <;> try (cases hlit; done)
          refine goh trivial ?_
          exact finh [some 3, some 4, some 5] hbl2
        · have hbl2 : blkHeal ⟨a, b, l⟩ ⟨pa, ps, pb⟩ = if (Dk.mk a b l).may 0 pa t = true then ((Dk.mk a b l).add 0 pa t, 0) else (⟨a, b, l⟩, 2) := hbl
          clear hbl
          have hk : dkWrite ⟨a, b, l⟩ 0 pa t = if (Dk.mk a b l).may 0 pa t = true then (Dk.mk a b l).add 0 pa t else ⟨a, b, l⟩ := by unfold dkWrite; rw [if_pos hok]
          have hk2 : dkWrites ⟨a, b, l⟩ 0 pa t = (Dk.mk a b l).may 0 pa t := by unfold dkWrites; rw [hok]; rfl
          refine goh (And.intro hcode (And.intro s0 (And.intro s1 (And.intro ht (And.intro cb1 cb2))))) ?_
          refine W_cnd ?_ ?_ <;> intro hlit <;> try (cases hlit; done)
          refine goh trivial ?_
          refine W_cnd ?_ ?_ <;> intro hlit <;> try (cases hlit; done)
          by_cases hm : (Dk.mk a b l).may 0 pa t = true
          · rw [if_pos hm] at hbl2 hk
            rw [hm] at hk2
            refine goh (And.intro hk hk2) ?_
            refine W_cnd ?_ ?_ <;> intro hlit <;> try (cases hlit; done)
            refine goh trivial ?_
            exact finh [some 3, some 4, some 5] hbl2
          · rw [if_neg hm] at hbl2 hk
            rw [show (Dk.mk a b l).may 0 pa t = false by simpa using hm] at hk2
            refine goh (And.intro hk hk2) ?_
            refine W_cnd ?_ ?_ <;> intro hlit <;> try (cases hlit; done)
            refine goh trivial ?_
            exact finh [some 7, some 8, some 9] hbl2
        · have hbl2 : blkHeal ⟨a, b, l⟩ ⟨pa, ps, pb⟩ = if (Dk.mk a b l).may 1 pa t = true then ((Dk.mk a b l).add 1 pa t, 0) else (⟨a, b, l⟩, 2) := hbl
          clear hbl
          have hk : dkWrite ⟨a, b, l⟩ 1 pa t = if (Dk.mk a b l).may 1 pa t = true then (Dk.mk a b l).add 1 pa t else ⟨a, b, l⟩ := by unfold dkWrite; rw [if_pos hok]
          have hk2 : dkWrites ⟨a, b, l⟩ 1 pa t = (Dk.mk a b l).may 1 pa t := by unfold dkWrites; rw [hok]; rfl
          refine goh (And.intro hcode (And.intro s0 (And.intro s1 (And.intro ht (And.intro cb1 cb2))))) ?_
          refine W_cnd ?_ ?_ <;> intro hlit <;> try (cases hlit; done)
          refine goh trivial ?_
          refine W_cnd ?_ ?_ <;> intro hlit <;> try (cases hlit; done)
          by_cases hm : (Dk.mk a b l).may 1 pa t = true
          · rw [if_pos hm] at hbl2 hk
            rw [hm] at hk2
            refine goh (And.intro hk hk2) ?_
            refine W_cnd ?_ ?_ <;> intro hlit <;> try (cases hlit; done)
            refine goh trivial ?_
            exact finh [some 3, some 4, some 5] hbl2
          · rw [if_neg hm] at hbl2 hk
            rw [show (Dk.mk a b l).may 1 pa t = false by simpa using hm] at hk2
            refine goh (And.intro hk hk2) ?_
            refine W_cnd ?_ ?_ <;> intro hlit <;> try (cases hlit; done)
            refine goh trivial ?_
            exact finh [some 7, some 8, some 9] hbl2
        · have hbl2 : blkHeal ⟨a, b, l⟩ ⟨pa, ps, pb⟩ = (⟨a, b, l⟩, 0) := hbl
          refine goh (And.intro hcode (And.intro s0 s1)) ?_
          refine W_cnd ?_ ?_ <;> intro hlit <;> try (cases hlit; done)
          refine goh trivial ?_
          exact finh [some 3, some 4, some 5] hbl2
      · have e1 : blkHeal ⟨a, b, l⟩ ⟨pa, ps, pb⟩ = (⟨a, b, l⟩, (blkRead ⟨a, b, l⟩ ⟨pa, ps, pb⟩).2) := by unfold blkHeal; rw [if_pos hok, if_pos (.inl hcode)]
        have c1 : ((blkRead ⟨a, b, l⟩ ⟨pa, ps, pb⟩).2 != 0) = true := by simp [hcode]
        repeat' first
          | with_reducible refine red ?_
          | refine W_seq ?_
          | (refine W_reg (s_specHeal_K.env []) s_specHeal_lv fun K' hK' => ?_
             simp only [go_sem, Dk.small, c1, ite_self, ↓reduceIte, ↓reduceDIte, reduceCtorEq, Nat.reduceAdd, Nat.reduceMul, Nat.reduceSub, Nat.reduceDiv, Nat.reduceMod, Nat.reduceLT, Nat.reduceLeDiff, Nat.reduceEqDiff, Nat.reduceBEq, Int.reduceToNat, Int.reduceLE, Int.reduceLT, Int.reduceEq, Int.reduceNe, Int.reduceNeg]
             (repeat' refine And.intro ?_ ?_) <;> try first | with_reducible refine hK' ?_ | exact shut6)
          | with_reducible refine blockG_o (by decide) ?_
        refine W_cnd ?_ ?_ <;> intro hlit <;> try (cases hlit; done)
        refine goh trivial ?_
        exact finh [some 3, some 4, some 5] e1
  · simp [no, ifp] at hp
end Go.Proofs.YtjedcphhajlnoaaGreatDoor
/- Functions: texts of pointers. -/
namespace Go.Proofs.YtjedcphhajlnoaaGreatDoor
open Go.RowKit

@[go_sem] def ctPoints : Ct := ⟨false, [[some .int]], fun args os => match args, os with
  | [.one (.isl .int zs)], [] => ifp (zs.length ≤ 1000 ∧ ∀ i : Nat, -9223372036854775808 ≤ zs.getD i ET.int.dflt ∧ zs.getD i ET.int.dflt ≤ 9223372036854775807) (vs (pointsV zs))
  | _, _ => no⟩
theorem s_points_e : EnterOk Tryz.prog 92 := ⟨_, Tryz.func92, rfl, by decide⟩
@[go_sem] def s_points_lv : List (List Nat) := [[0], [0, 3], [3, 6, 7, 8], [3, 6, 7, 8, 9], [3, 5, 6, 7, 8], [3, 6, 7, 8], [3, 6, 7, 8], [2]]
@[go_sem] noncomputable def s_points_K : Known := ((Known.nil).cons 100 ctItoa s_itoa s_itoa_e).cons 129 ctJoin s_join s_join_e
set_option maxHeartbeats 8000000 in
theorem s_points : Sound Tryz.prog 92 ctPoints := by
  have ke := s_points_K.env []
  have kl : Lives s_points_lv := trivial
  refine sound_intro (E := ⟨ti, s_points_K.Γ, []⟩) ke Tryz.func92 Tryz.ntmps92 rfl (rs := [.tmp 2]) rfl ?_
  intro args os hp
  unfold ctPoints at hp ⊢
  dsimp only at hp ⊢
  split at hp
  · rename_i zs
    obtain ⟨hlen, hin⟩ : zs.length ≤ 1000 ∧ ∀ i : Nat, -9223372036854775808 ≤ zs.getD i ET.int.dflt ∧ zs.getD i ET.int.dflt ≤ 9223372036854775807 := hp
    refine ⟨by simp, fun φ0 w0 => ?_⟩
    refine goh trivial ?_
    refine W_for zs.length (fun i => True) (fun i => ⟨[(3, .one (.osl .str 0 0 i)), (6, .one (.isl .int zs)), (7, vi zs.length), (8, vi i)], [some (.arr .str ((zs.take i).map decS))], []⟩) [none] (leh trivial) trivial fun i hi _ => ?_
    have hl : ((zs.take i).map decS).length = i := by rw [List.length_map, List.length_take]; omega
    refine goh trivial ?_
    refine W_cnd ?_ ?_ <;> (try simp only [cnd_r]) <;> intro hlt
    · have hin2 := hin i
      have hs : (zs.take (i + 1)).map decS = (zs.take i).map decS ++ [decS (zs.getD i ET.int.dflt)] := by
        have e : zs.getD i ET.int.dflt = zs[i] := by simp [show i < zs.length by omega]
        rw [e, List.take_add_one, List.getElem?_eq_getElem (by omega), List.map_append]; rfl
      have ht3 : ((zs.take i).map decS).take i = (zs.take i).map decS := List.take_of_length_le (by omega)
      refine goh (And.intro hl (And.intro hin2 ht3)) ?_
      exact ⟨[some 2], by omega, leh (And.intro hs hl), trivial⟩
    · obtain rfl : i = zs.length := by omega
      have ht : zs.take zs.length = zs := List.take_length
      rw [ht] at hl ⊢
      have e : pointsV zs = joinV ⟨#[46]⟩ (zs.map decS) := rfl
      have hz := pointsV_size (zs := zs) fun z hz => by
        obtain ⟨j, hj, rfl⟩ := List.getElem_of_mem hz
        have := hin j
        rwa [show zs.getD j ET.int.dflt = zs[j] by simp [hj]] at this
      rw [e] at hz
      have hj : (zs.map decS).length ≤ 140737488355328 ∧ (joinV ⟨#[46]⟩ (zs.map decS)).size ≤ 140737488355328 := ⟨by omega, by omega⟩
      have ht2 : (zs.map decS).take zs.length = zs.map decS := List.take_of_length_le (by omega)
      refine goh (And.intro hl (And.intro hj ht2)) ?_
      exact finh [] e
  · simp [no, ifp] at hp
@[go_sem] def ctPtrText : Ct := ⟨false, [], fun args os => match args, os with
  | [.agg [.val (.int .i64 a), .val (.int .i64 s), .val (.int .i64 b)]], [] => is (vs (ptrT ⟨a, s, b⟩))
  | _, _ => no⟩
theorem three_in {a s b : Int} (h : ptrOkB ⟨a, s, b⟩ = true) (i : Nat) : -9223372036854775808 ≤ [a, s, b].getD i ET.int.dflt ∧ [a, s, b].getD i ET.int.dflt ≤ 9223372036854775807 := by
  have hd : ET.int.dflt = (0 : Int) := rfl
  rcases ptrOk_cases h with h | h
  · cases h
    match i with
    | 0 => simp
    | 1 => simp
    | 2 => simp
    | i + 3 => simp [hd]
  · simp only at h
    match i with
    | 0 => simp; omega
    | 1 => simp; omega
    | 2 => simp; omega
    | i + 3 => simp [hd]
theorem s_ptrText_e : EnterOk Tryz.prog 27 := ⟨_, Tryz.func27, rfl, by decide⟩
@[go_sem] def s_ptrText_lv : List (List Nat) := [[1], [1, 3], [2], [1, 7], [2], [2]]
@[go_sem] noncomputable def s_ptrText_K : Known := ((Known.nil).cons 24 ctPtrOk s_ptrOk s_ptrOk_e).cons 92 ctPoints s_points s_points_e
set_option maxHeartbeats 8000000 in
theorem s_ptrText : Sound Tryz.prog 27 ctPtrText := by
  have ke := s_ptrText_K.env []
  have kl : Lives s_ptrText_lv := trivial
  refine sound_intro (E := ⟨ti, s_ptrText_K.Γ, []⟩) ke Tryz.func27 Tryz.ntmps27 rfl (rs := [.tmp 2]) rfl ?_
  intro args os hp
  unfold ctPtrText at hp ⊢
  dsimp only at hp ⊢
  split at hp
  · rename_i a s b
    refine ⟨by simp, fun φ0 w0 => ?_⟩
    clear hp
    have nt : (!true) = false := rfl
    have nf : (!false) = true := rfl
    cases hk : ptrOkB ⟨a, s, b⟩ with
    | false =>
      have e : ptrT ⟨a, s, b⟩ = ⟨#[]⟩ := by unfold ptrT; rw [if_neg (by rw [hk]; decide)]
      refine goh (And.intro hk nf) ?_
      refine W_cnd ?_ ?_ <;> intro hlit <;> try (cases hlit; done)
      refine goh trivial ?_
      exact finh [] e
    | true =>
      refine goh (And.intro hk nt) ?_
      refine W_cnd ?_ ?_ <;> intro hlit <;> try (cases hlit; done)
      refine goh trivial ?_
      refine W_cnd ?_ ?_ <;> (try simp only [cnd_r]) <;> intro h0
      · have e : ptrT ⟨a, s, b⟩ = ⟨#[45]⟩ := by unfold ptrT; rw [if_pos hk, if_pos h0]
        refine goh trivial ?_
        exact finh [] e
      · simp only [beq_eq_false_iff_ne, ne_eq] at h0
        have e : ptrT ⟨a, s, b⟩ = pointsV [a, s, b] := by unfold ptrT; rw [if_pos hk, if_neg h0]
        have hin := three_in hk
        refine goh hin ?_
        exact finh [] e
  · exact hp.elim
theorem s_specPtrText_e : EnterOk Tryz.prog 104 := ⟨_, Tryz.func104, rfl, by decide⟩
@[go_sem] def s_specPtrText_lv : List (List Nat) := [[1], [1, 5], [2], [1, 8], [2], [2]]
@[go_sem] noncomputable def s_specPtrText_K : Known := ((Known.nil).cons 25 ctPtrOk s_specPtrOk s_specPtrOk_e).cons 103 ctDecV s_dec2 s_dec2_e
set_option maxHeartbeats 8000000 in
theorem s_specPtrText : Sound Tryz.prog 104 ctPtrText := by
  have ke := s_specPtrText_K.env []
  have kl : Lives s_specPtrText_lv := trivial
  refine sound_intro (E := ⟨ti, s_specPtrText_K.Γ, []⟩) ke Tryz.func104 Tryz.ntmps104 rfl (rs := [.tmp 2]) rfl ?_
  intro args os hp
  unfold ctPtrText at hp ⊢
  dsimp only at hp ⊢
  split at hp
  · rename_i a s b
    refine ⟨by simp, fun φ0 w0 => ?_⟩
    clear hp
    have nt : (!true) = false := rfl
    have nf : (!false) = true := rfl
    cases hk : ptrOkB ⟨a, s, b⟩ with
    | false =>
      have e : ptrT ⟨a, s, b⟩ = ⟨#[]⟩ := by unfold ptrT; rw [if_neg (by rw [hk]; decide)]
      refine goh (And.intro hk nf) ?_
      refine W_cnd ?_ ?_ <;> intro hlit <;> try (cases hlit; done)
      refine goh trivial ?_
      exact finh [] e
    | true =>
      refine goh (And.intro hk nt) ?_
      refine W_cnd ?_ ?_ <;> intro hlit <;> try (cases hlit; done)
      refine goh trivial ?_
      refine W_cnd ?_ ?_ <;> (try simp only [cnd_r]) <;> intro h0
      · have e : ptrT ⟨a, s, b⟩ = ⟨#[45]⟩ := by unfold ptrT; rw [if_pos hk, if_pos h0]
        refine goh trivial ?_
        exact finh [] e
      · simp only [beq_eq_false_iff_ne, ne_eq] at h0
        have e : ptrT ⟨a, s, b⟩ = decS a ++ ⟨#[46]⟩ ++ decS s ++ ⟨#[46]⟩ ++ decS b := by unfold ptrT; rw [if_pos hk, if_neg h0, pointsV_three]
        have hin := three_in hk
        have i0 := hin 0
        have i1 := hin 1
        have i2 := hin 2
        simp only [List.getD_cons_zero, List.getD_cons_succ] at i0 i1 i2
        have z0 := decS_size i0.1 i0.2
        have z1 := decS_size i1.1 i1.2
        have z2 := decS_size i2.1 i2.2
        have hc1 : (⟨#[46]⟩ : ByteArray).size = 1 := rfl
        refine goh trivial ?_
        exact finh [] e
  · exact hp.elim
end Go.Proofs.YtjedcphhajlnoaaGreatDoor
/- Functions: the digits of bytes, sealed texts. -/
namespace Go.Proofs.YtjedcphhajlnoaaGreatDoor
open Go.RowKit

def hexs : ByteArray := ⟨#[48, 49, 50, 51, 52, 53, 54, 55, 56, 57, 97, 98, 99, 100, 101, 102]⟩
def hexd (k : Nat) : UInt8 := hexs.data.getD k 0
def hexN (s : ByteArray) : Nat → List UInt8
  | 0 => []
  | i + 1 => hexN s i ++ [hexd ((s.data.getD i 0).toNat / 16), hexd ((s.data.getD i 0).toNat % 16)]
theorem hexN_len (s : ByteArray) : ∀ i, (hexN s i).length = 2 * i
  | 0 => rfl
  | i + 1 => by unfold hexN; rw [List.length_append, hexN_len s i]; simp only [List.length_cons, List.length_nil]; omega
def hexV (s : ByteArray) : ByteArray := ⟨(hexN s s.size).toArray⟩
theorem nib_hi (b : UInt8) : ((b.toNat : Int)).fdiv (2 ^ min 4 8) = ((b.toNat / 16 : Nat) : Int) := by
  rw [Int.fdiv_eq_ediv_of_nonneg _ (by decide)]
  show (b.toNat : Int) / 16 = _
  omega
theorem nib_lo (b : UInt8) : IntKind.u8.wrap (andZ .u8 b.toNat 15) = ((b.toNat % 16 : Nat) : Int) := by
  have h : ∀ k : Fin 256, IntKind.u8.wrap (andZ .u8 ((k.val : Nat) : Int) 15) = ((k.val % 16 : Nat) : Int) := by decide +kernel
  exact h ⟨b.toNat, b.toNat_lt⟩
theorem hexd_at (k : Nat) : (#[48, 49, 50, 51, 52, 53, 54, 55, 56, 57, 97, 98, 99, 100, 101, 102] : Array UInt8).getD k 0 = hexd k := rfl
@[go_sem] def ctHex : Ct := ⟨false, [], fun args os => match args, os with
  | [.one (.val (.string s))], [] => ifp (s.size ≤ 1000000000) (vs (hexV s))
  | _, _ => no⟩
theorem s_hex_e : EnterOk Tryz.prog 128 := ⟨_, Tryz.func128, rfl, by decide⟩
@[go_sem] def s_hex_lv : List (List Nat) := [[0], [0, 3], [0, 3, 6, 7], [0, 3, 6, 7, 8], [0, 3, 4, 6, 7], [0, 3, 6, 7], [0, 3, 6, 7], [2]]
@[go_sem] noncomputable def s_hex_K : Known := Known.nil
set_option maxHeartbeats 8000000 in
theorem s_hex : Sound Tryz.prog 128 ctHex := by
  have ke := s_hex_K.env []
  have kl : Lives s_hex_lv := trivial
  refine sound_intro (E := ⟨ti, s_hex_K.Γ, []⟩) ke Tryz.func128 Tryz.ntmps128 rfl (rs := [.tmp 2]) rfl ?_
  intro args os hp
  unfold ctHex at hp ⊢
  dsimp only at hp ⊢
  split at hp
  · rename_i s
    have hlen : s.size ≤ 1000000000 := hp
    refine ⟨by simp, fun φ0 w0 => ?_⟩
    refine goh trivial ?_
    refine W_for s.size (fun i => True) (fun i => ⟨[(0, vs s), (3, .one (.osl .byte 0 0 (hexN s i).length)), (6, vi s.size), (7, vi i)], [some (.arr .byte (hexN s i))], []⟩) [none] (leh trivial) trivial fun i hi _ => ?_
    have hl := hexN_len s i
    refine goh trivial ?_
    refine W_cnd ?_ ?_ <;> (try simp only [cnd_r]) <;> intro hlt
    · have h1 := nib_hi (s.data.getD i 0)
      have h2 := nib_lo (s.data.getD i 0)
      have hb := (s.data.getD i 0).toNat_lt
      have hs : hexN s (i + 1) = hexN s i ++ [hexd ((s.data.getD i 0).toNat / 16), hexd ((s.data.getD i 0).toNat % 16)] := rfl
      have hda : ∀ k : Nat, (#[48, 49, 50, 51, 52, 53, 54, 55, 56, 57, 97, 98, 99, 100, 101, 102] : Array UInt8).getD k 0 = hexd k := hexd_at
      have hof : ∀ x : UInt8, UInt8.ofNat x.toNat = x := fun x => UInt8.ofNat_toNat
      refine goh (And.intro h1 (And.intro h2 (And.intro hda hof))) ?_
      exact ⟨[some 2], by omega, leh hs, trivial⟩
    · obtain rfl : i = s.size := by omega
      have e : hexV s = ⟨(hexN s s.size).toArray⟩ := rfl
      refine goh trivial ?_
      exact finh [] e
  · simp [no, ifp] at hp
@[go_sem] def ctDigit : Ct := ⟨false, [], fun args os => match args, os with
  | [.one (.val (.int .i64 n))], [] => ifp (0 ≤ n ∧ n < 16) (.one (.val (.int .u8 (hexd n.toNat).toNat)))
  | _, _ => no⟩
theorem s_digit_e : EnterOk Tryz.prog 207 := ⟨_, Tryz.func207, rfl, by decide⟩
@[go_sem] def s_digit_lv : List (List Nat) := [[0], [2]]
@[go_sem] noncomputable def s_digit_K : Known := Known.nil
set_option maxHeartbeats 8000000 in
theorem s_digit : Sound Tryz.prog 207 ctDigit := by
  have ke := s_digit_K.env []
  have kl : Lives s_digit_lv := trivial
  refine sound_intro (E := ⟨ti, s_digit_K.Γ, []⟩) ke Tryz.func207 Tryz.ntmps207 rfl (rs := [.tmp 2]) rfl ?_
  intro args os hp
  unfold ctDigit at hp ⊢
  dsimp only at hp ⊢
  split at hp
  · rename_i n
    obtain ⟨h1, h2⟩ : 0 ≤ n ∧ n < 16 := hp
    refine ⟨by simp, fun φ0 w0 => ?_⟩
    have hda : ∀ k : Nat, (#[48, 49, 50, 51, 52, 53, 54, 55, 56, 57, 97, 98, 99, 100, 101, 102] : Array UInt8).getD k 0 = hexd k := hexd_at
    refine goh hda ?_
    exact finh [] trivial
  · simp [no, ifp] at hp
theorem s_specHex_e : EnterOk Tryz.prog 133 := ⟨_, Tryz.func133, rfl, by decide⟩
@[go_sem] def s_specHex_lv : List (List Nat) := [[0], [0, 3], [0, 3, 4], [0, 3, 4, 9], [0, 3, 4], [0, 3, 4], [2]]
@[go_sem] noncomputable def s_specHex_K : Known := (Known.nil).cons 207 ctDigit s_digit s_digit_e
set_option maxHeartbeats 8000000 in
theorem s_specHex : Sound Tryz.prog 133 ctHex := by
  have ke := s_specHex_K.env []
  have kl : Lives s_specHex_lv := trivial
  refine sound_intro (E := ⟨ti, s_specHex_K.Γ, []⟩) ke Tryz.func133 Tryz.ntmps133 rfl (rs := [.tmp 2]) rfl ?_
  intro args os hp
  unfold ctHex at hp ⊢
  dsimp only at hp ⊢
  split at hp
  · rename_i s
    have hlen : s.size ≤ 1000000000 := hp
    refine ⟨by simp, fun φ0 w0 => ?_⟩
    refine goh trivial ?_
    refine W_for s.size (fun i => True) (fun i => ⟨[(0, vs s), (3, .one (.osl .byte 0 0 (hexN s i).length)), (4, vi i)], [some (.arr .byte (hexN s i))], []⟩) [some 0] (leh trivial) trivial fun i hi _ => ?_
    have hl := hexN_len s i
    refine goh trivial ?_
    refine W_cnd ?_ ?_ <;> (try simp only [cnd_r]) <;> intro hlt
    · have h1 : ((s.data.getD i 0).toNat : Int).tdiv 16 = (((s.data.getD i 0).toNat / 16 : Nat) : Int) := (Int.ofNat_tdiv _ 16).symm
      have h2 : ((s.data.getD i 0).toNat : Int).tmod 16 = (((s.data.getD i 0).toNat % 16 : Nat) : Int) := (Int.ofNat_tmod _ 16).symm
      have hb := (s.data.getD i 0).toNat_lt
      have w2 : IntKind.i64.wrap ((s.data.getD i 0).toNat : Int) = ((s.data.getD i 0).toNat : Int) := wrap_id _ (by omega) (by omega)
      have w1 : IntKind.i64.wrap (((s.data.getD i 0).toNat / 16 : Nat) : Int) = (((s.data.getD i 0).toNat / 16 : Nat) : Int) := wrap_id _ (by omega) (by omega)
      have hs : hexN s (i + 1) = hexN s i ++ [hexd ((s.data.getD i 0).toNat / 16), hexd ((s.data.getD i 0).toNat % 16)] := rfl
      have hof : ∀ x : UInt8, UInt8.ofNat x.toNat = x := fun x => UInt8.ofNat_toNat
      refine goh (And.intro w2 (And.intro h1 (And.intro h2 (And.intro w1 hof)))) ?_
      exact ⟨[some 2], by omega, leh hs, trivial⟩
    · obtain rfl : i = s.size := by omega
      have e : hexV s = ⟨(hexN s s.size).toArray⟩ := rfl
      refine goh trivial ?_
      exact finh [] e
  · simp [no, ifp] at hp
theorem hexV_size (s : ByteArray) : (hexV s).size = 2 * s.size := by
  show (hexN s s.size).toArray.size = _
  rw [List.size_toArray, hexN_len]
noncomputable def sealV (s : ByteArray) : ByteArray := if 400 < s.size then ⟨#[]⟩ else decS (sumOf s) ++ ⟨#[58]⟩ ++ s
@[go_sem] noncomputable def ctSeal : Ct := ⟨false, [], fun args os => match args, os with
  | [.one (.val (.string s))], [] => is (vs (sealV s))
  | _, _ => no⟩
theorem s_seal_e : EnterOk Tryz.prog 101 := ⟨_, Tryz.func101, rfl, by decide⟩
@[go_sem] def s_seal_lv : List (List Nat) := [[0], [0, 5], [2], [2]]
@[go_sem] noncomputable def s_seal_K : Known := ((Known.nil).cons 168 ctSumOf s_sumOf s_sumOf_e).cons 100 ctItoa s_itoa s_itoa_e
set_option maxHeartbeats 8000000 in
theorem s_seal : Sound Tryz.prog 101 ctSeal := by
  have ke := s_seal_K.env []
  have kl : Lives s_seal_lv := trivial
  refine sound_intro (E := ⟨ti, s_seal_K.Γ, []⟩) ke Tryz.func101 Tryz.ntmps101 rfl (rs := [.tmp 2]) rfl ?_
  intro args os hp
  unfold ctSeal at hp ⊢
  dsimp only at hp ⊢
  split at hp
  · rename_i s
    refine ⟨by simp, fun φ0 w0 => ?_⟩
    refine goh trivial ?_
    refine W_cnd ?_ ?_ <;> (try simp only [cnd_r]) <;> intro hc
    · have e : sealV s = ⟨#[]⟩ := by unfold sealV; rw [if_pos (by omega)]
      refine goh trivial ?_
      exact finh [] e
    · have e : sealV s = decS (sumOf s) ++ ⟨#[58]⟩ ++ s := by unfold sealV; rw [if_neg (by omega)]
      have h1 := sumAt_lt s s.size
      have h2 : sumAt s s.size = sumOf s := rfl
      have h3 := decS_size (n := sumOf s) (by omega) (by omega)
      have h4 : (⟨#[58]⟩ : ByteArray).size = 1 := rfl
      refine goh trivial ?_
      exact finh [] e
  · simp [no, is, ifp] at hp
theorem s_specSeal_e : EnterOk Tryz.prog 102 := ⟨_, Tryz.func102, rfl, by decide⟩
@[go_sem] def s_specSeal_lv : List (List Nat) := [[0], [0, 5], [2], [2]]
@[go_sem] noncomputable def s_specSeal_K : Known := ((Known.nil).cons 169 ctSumOf s_specSum s_specSum_e).cons 103 ctDecV s_dec2 s_dec2_e
set_option maxHeartbeats 8000000 in
theorem s_specSeal : Sound Tryz.prog 102 ctSeal := by
  have ke := s_specSeal_K.env []
  have kl : Lives s_specSeal_lv := trivial
  refine sound_intro (E := ⟨ti, s_specSeal_K.Γ, []⟩) ke Tryz.func102 Tryz.ntmps102 rfl (rs := [.tmp 2]) rfl ?_
  intro args os hp
  unfold ctSeal at hp ⊢
  dsimp only at hp ⊢
  split at hp
  · rename_i s
    refine ⟨by simp, fun φ0 w0 => ?_⟩
    refine goh trivial ?_
    refine W_cnd ?_ ?_ <;> (try simp only [cnd_r]) <;> intro hc
    · have e : sealV s = ⟨#[]⟩ := by unfold sealV; rw [if_pos (by omega)]
      refine goh trivial ?_
      exact finh [] e
    · have e : sealV s = decS (sumOf s) ++ ⟨#[58]⟩ ++ s := by unfold sealV; rw [if_neg (by omega)]
      have h1 := sumAt_lt s s.size
      have h2 : sumAt s s.size = sumOf s := rfl
      have h3 := decS_size (n := sumOf s) (by omega) (by omega)
      have h4 : (⟨#[58]⟩ : ByteArray).size = 1 := rfl
      refine goh trivial ?_
      exact finh [] e
  · simp [no, is, ifp] at hp
end Go.Proofs.YtjedcphhajlnoaaGreatDoor
