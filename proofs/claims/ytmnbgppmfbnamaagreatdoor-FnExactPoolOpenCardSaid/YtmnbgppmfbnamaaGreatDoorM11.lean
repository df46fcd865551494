import Derived.Test.YtmnbgppmfbnamaaGreatDoorM7
import Derived.Test.YtmnbgppmfbnamaaGreatDoorM9
import Derived.Test.YtmnbgppmfbnamaaGreatDoorM10
set_option linter.unusedSimpArgs false
set_option linter.unusedVariables false
set_option linter.unusedSectionVars false
/- Functions: a block healed. -/
namespace Go.Proofs.YtmnbgppmfbnamaaGreatDoor
open Go.RowKit

def badSide (d : Dk) (p : Ptr) : Int := if d.has p 0 then 1 else 0
def blkHeal (d : Dk) (p : Ptr) : Dk × Int :=
  if d.ok then
    if (blkRead d p).2 ≠ 0 ∨ d.has p 0 = d.has p 1 then (d, (blkRead d p).2)
    else if d.may (badSide d p) p.at_ (blkRead d p).1 then (d.add (badSide d p) p.at_ (blkRead d p).1, (blkRead d p).2) else (d, 2)
  else (.nil, 2)
@[go_sem] def ctBlkHeal : Ct := ⟨false, [[some .str, some .str, some .late]], fun args os => match args, os with
  | [.agg [.isl .str a, .isl .str b, .isl .late l], .agg [.val (.int .i64 pa), .val (.int .i64 ps), .val (.int .i64 pb)]], [] => ⟨(Dk.mk a b l).small, .tup [(blkHeal ⟨a, b, l⟩ ⟨pa, ps, pb⟩).1.v 0, vi (blkHeal ⟨a, b, l⟩ ⟨pa, ps, pb⟩).2], [], (blkHeal ⟨a, b, l⟩ ⟨pa, ps, pb⟩).1.objs⟩
  | _, _ => no⟩
end Go.Proofs.YtmnbgppmfbnamaaGreatDoor
/- Plain facts: blocks. -/
namespace Go.Proofs.YtmnbgppmfbnamaaGreatDoor
open Go.RowKit

theorem sumOf_lt (t : ByteArray) : sumOf t < 65521 := sumAt_lt t t.size
theorem Dk.add2_text (d : Dk) (k : Int) (t : ByteArray) (s' k' : Int) : (d.add2 k t).text s' k' = if (s' = 0 ∨ s' = 1) ∧ k = k' then t else d.text s' k' := by
  show ((d.add 0 k t).add 1 k t).text s' k' = _
  rw [Dk.add_text, Dk.add_text]
  by_cases h1 : 1 = s' ∧ k = k'
  · rw [if_pos h1, if_pos ⟨.inr h1.1.symm, h1.2⟩]
  · rw [if_neg h1]
    by_cases h2 : 0 = s' ∧ k = k'
    · rw [if_pos h2, if_pos ⟨.inl h2.1.symm, h2.2⟩]
    · rw [if_neg h2, if_neg]
      rintro ⟨h3 | h3, h4⟩
      · exact h2 ⟨h3.symm, h4⟩
      · exact h1 ⟨h3.symm, h4⟩
theorem may2_iff (d : Dk) (k : Int) (t : ByteArray) : d.may2 k t = true ↔ 0 ≤ k ∧ k < d.a.length ∧ t.size ≤ 420 ∧ d.l.length ≤ 598 := by
  unfold Dk.may2
  rw [Bool.and_eq_true, decide_eq_true_eq, may_iff]
  omega
theorem Dk.add2_ok {d : Dk} (h : d.ok = true) {k : Int} {t : ByteArray} (hm : d.may2 k t = true) : (d.add2 k t).ok = true := by
  obtain ⟨m1, m2, m3, m4⟩ := (may2_iff d k t).1 hm
  have h0 : d.may 0 k t = true := (may_iff _ _ _ _).2 ⟨.inl rfl, m1, m2, m3, by omega⟩
  exact Dk.add_ok (Dk.add_ok h h0) (may2_one k t h0 m4)
theorem blkWrites_pos {d : Dk} {k : Int} {t : ByteArray} (h : blkWrites d k t = true) :
    d.ok = true ∧ d.may2 k t = true ∧ blkWrite d k t = d.add2 k t ∧ (blkWrite d k t).ok = true ∧ (blkWrite d k t).a.length = d.a.length ∧
    ∀ s' k', (blkWrite d k t).text s' k' = if (s' = 0 ∨ s' = 1) ∧ k = k' then t else d.text s' k' := by
  unfold blkWrites at h
  rw [Bool.and_eq_true] at h
  have e : blkWrite d k t = d.add2 k t := by unfold blkWrite; rw [if_pos h.1, if_pos h.2]
  rw [e]
  exact ⟨h.1, h.2, rfl, Dk.add2_ok h.1 h.2, rfl, d.add2_text k t⟩
theorem blk_same {d x : Dk} {p : Ptr} (h1 : x.ok = d.ok) (h2 : x.a.length = d.a.length) (h3 : ∀ s, x.text s p.at_ = d.text s p.at_) : blkRead x p = blkRead d p := by
  unfold blkRead Dk.has; rw [h1, h2, h3 0, h3 1]
theorem blkTo_real {k : Int} {t : ByteArray} {b : Int} (h1 : 1 ≤ k) (h2 : k ≤ 119) (h3 : 0 ≤ b) (h4 : b ≤ 1000000) : blkTo k t b = ⟨k, (sumOf t : Nat), b⟩ ∧ realB ⟨k, (sumOf t : Nat), b⟩ = true := by
  have hs := sumOf_lt t
  have e : realB ⟨k, (sumOf t : Nat), b⟩ = true := by
    unfold realB ptrOkB
    simp only [Bool.and_eq_true, Bool.or_eq_true, decide_eq_true_eq, Bool.not_eq_true', beq_eq_false_iff_ne, ne_eq]
    omega
  exact ⟨by unfold blkTo; rw [if_pos e], e⟩
theorem real_at {p : Ptr} (h : realB p = true) : 1 ≤ p.at_ ∧ p.at_ ≤ 119 := by
  unfold realB ptrOkB at h
  simp only [Bool.and_eq_true, Bool.or_eq_true, decide_eq_true_eq, Bool.not_eq_true', beq_eq_false_iff_ne, ne_eq] at h
  omega
theorem blk_fine {d : Dk} {p : Ptr} (h : d.ok = true) (hp : realB p = true) {t : ByteArray} (h0 : (d.has p 0 = true ∧ d.text 0 p.at_ = t) ∨ (d.has p 0 = false ∧ d.has p 1 = true ∧ d.text 1 p.at_ = t)) : blkRead d p = (t, 0) := by
  have := real_at hp
  unfold blkRead
  rw [if_neg (by omega), h, hp, Bool.and_self, if_pos rfl]
  rcases h0 with ⟨h1, h2⟩ | ⟨h1, h2, h3⟩
  · rw [if_pos h1, h2]
  · rw [h1, if_neg (by decide), if_pos h2, h3]
theorem has_iff (d : Dk) (p : Ptr) (s : Int) : d.has p s = true ↔ sector d.a.length s p.at_ = true ∧ (sumOf (d.text s p.at_) : Int) = p.sum := by
  unfold Dk.has; rw [Bool.and_eq_true, decide_eq_true_eq]
theorem flush_ok {x : Dk} (h : x.ok = true) : (dkFlush x).ok = true ∧ (dkFlush x).a.length = x.a.length ∧ (dkFlush x).l = [] ∧ ∀ s k, sector x.a.length s k = true → (dkFlush x).text s k = x.text s k := by
  have hl := (dkFall_len h (List.replicate x.l.length 1)).1
  have hl2 := (dkFall_small x (List.replicate x.l.length 1)).2.2
  rw [dkFall_all] at hl hl2
  refine ⟨dkFlush_ok h, hl, hl2, fun s k hs => ?_⟩
  have h1 := fall_read h x.l.length (Nat.le_refl _) s k hs
  rw [dkFall_all] at h1
  have h2 : dkReads (dkFlush x) s k = true := by unfold dkReads; rw [dkFlush_ok h, hl, hs]; rfl
  have h3 : dkRead (dkFlush x) s k = (dkFlush x).text s k := by unfold dkRead; rw [if_pos h2]
  rw [← h3, h1]; rfl
theorem flush_small (d : Dk) : (dkFlush d).a.length ≤ d.a.length ∧ (dkFlush d).b.length ≤ d.b.length ∧ (dkFlush d).l.length = 0 := by
  unfold dkFlush
  split
  · have := d.done_len d.l.length
    exact ⟨by show (d.done _).1.length ≤ _; omega, by show (d.done _).2.length ≤ _; omega, rfl⟩
  · exact ⟨Nat.zero_le _, Nat.zero_le _, rfl⟩
theorem same_refl {α : Type} (x : α) : same x x = true := by simp [same]
theorem fallen_flush (x : Dk) (fate : List Int) : dkFall (dkFlush x) fate = dkFlush x := by
  by_cases h : x.ok = true
  · have hok := dkFlush_ok h
    have e : dkFlush x = x.flushed := by unfold dkFlush; rw [if_pos h]
    unfold dkFall
    rw [if_pos hok, e]
    unfold Dk.fallen
    have : min x.flushed.l.length fate.length = 0 := Nat.min_eq_left (Nat.zero_le _)
    rw [this]; rfl
  · have e : dkFlush x = .nil := by unfold dkFlush; rw [if_neg h]
    rw [e]; unfold dkFall; rw [show Dk.nil.ok = false by decide]; rfl
/-- One block written: no other one is disturbed. -/
theorem one_all {d : Dk} {k : Int} {t : ByteArray} (h : blkWrites d k t = true) :
    (∀ (i : Int) (b : Int), 1 ≤ i → i < d.a.length → 0 ≤ b → b ≤ 9 → i ≠ k → blkRead (blkWrite d k t) (blkTo i (dkRead d 0 i) b) = blkRead d (blkTo i (dkRead d 0 i) b)) ∧
    (1 ≤ k → blkRead (dkFlush (blkWrite d k t)) (blkTo k t 1) = (t, 0)) := by
  obtain ⟨h1, h2, h3, h4, h5, h6⟩ := blkWrites_pos h
  obtain ⟨a1, a2, -⟩ := (Dk.ok_iff _).1 h1
  obtain ⟨m1, m2, m3, m4⟩ := (may2_iff _ _ _).1 h2
  constructor
  · intro i b hi1 hi2 hb1 hb2 hik
    obtain ⟨p1, p2⟩ := blkTo_real (t := dkRead d 0 i) hi1 (show i ≤ 119 by omega) hb1 (show b ≤ 1000000 by omega)
    rw [p1]
    refine blk_same (by rw [h4, h1]) h5 fun s => ?_
    rw [h6, if_neg]
    rintro ⟨-, h⟩
    exact hik h.symm
  · intro hk
    obtain ⟨p1, p2⟩ := blkTo_real (t := t) hk (show k ≤ 119 by omega) (show (0:Int) ≤ 1 by decide) (by decide)
    rw [p1]
    obtain ⟨f1, f2, -, f3⟩ := flush_ok h4
    have hs : sector (blkWrite d k t).a.length 0 k = true := (sector_iff _ _ _).2 ⟨.inl rfl, m1, by omega⟩
    have ht : (dkFlush (blkWrite d k t)).text 0 k = t := by rw [f3 _ _ hs, h6, if_pos ⟨.inl rfl, rfl⟩]
    refine blk_fine f1 p2 (.inl ⟨(has_iff _ _ _).2 ⟨by rw [f2]; exact hs, ?_⟩, ht⟩)
    rw [ht]
/-- A decayed copy is noticed, and repaired. -/
theorem heal_all {d : Dk} {k : Int} {t : ByteArray} (h : blkWrites d k t = true) (hk : 1 ≤ k) (side j m : Int) (hside : side = 0 ∨ side = 1) :
    blkRead (blkWrite d k t) (blkTo k t 1) = (t, 0) ∧ blkRead (dkRot (dkFlush (blkWrite d k t)) side k j m) (blkTo k t 1) = (t, 0) ∧
    (blkHeal (dkRot (dkFlush (blkWrite d k t)) side k j m) (blkTo k t 1)).2 = 0 ∧
    blkSide (blkHeal (dkRot (dkFlush (blkWrite d k t)) side k j m) (blkTo k t 1)).1 (blkTo k t 1) 0 = true ∧
    blkSide (blkHeal (dkRot (dkFlush (blkWrite d k t)) side k j m) (blkTo k t 1)).1 (blkTo k t 1) 1 = true ∧
    blkTo k t 1 = ⟨k, (sumOf t : Nat), 1⟩ ∧ ∀ s : Int, s ≠ (sumOf t : Nat) → (blkRead (dkFlush (blkWrite d k t)) ⟨k, s, 1⟩).2 = 2 := by
  obtain ⟨h1, h2, h3, h4, h5, h6⟩ := blkWrites_pos h
  obtain ⟨a1, a2, -⟩ := (Dk.ok_iff _).1 h1
  obtain ⟨m1, m2, m3, m4⟩ := (may2_iff _ _ _).1 h2
  obtain ⟨p1, p2⟩ := blkTo_real (t := t) hk (show k ≤ 119 by omega) (show (0:Int) ≤ 1 by decide) (by decide)
  obtain ⟨f1, f2, fl, f3⟩ := flush_ok h4
  rw [p1]
  have hs0 : sector (blkWrite d k t).a.length 0 k = true := (sector_iff _ _ _).2 ⟨.inl rfl, m1, by omega⟩
  have hs1 : sector (blkWrite d k t).a.length 1 k = true := (sector_iff _ _ _).2 ⟨.inr rfl, m1, by omega⟩
  have x0 : (blkWrite d k t).text 0 k = t := by rw [h6, if_pos ⟨.inl rfl, rfl⟩]
  have x1 : (blkWrite d k t).text 1 k = t := by rw [h6, if_pos ⟨.inr rfl, rfl⟩]
  have y0 : (dkFlush (blkWrite d k t)).text 0 k = t := by rw [f3 _ _ hs0, x0]
  have y1 : (dkFlush (blkWrite d k t)).text 1 k = t := by rw [f3 _ _ hs1, x1]
  obtain ⟨y, hy⟩ : ∃ y, dkFlush (blkWrite d k t) = y := ⟨_, rfl⟩
  rw [hy] at f1 f2 fl f3 y0 y1 ⊢
  have ya : y.a.length = d.a.length := by rw [f2, h5]
  obtain ⟨r1, r2, r3⟩ := And.intro (dkRot_ok f1 side k j m) (dkRot_len f1 side k j m)
  have hrot := dkRot_at f1 side k j m k.toNat (by omega)
  obtain ⟨z, hz⟩ : ∃ z, dkRot y side k j m = z := ⟨_, rfl⟩
  rw [hz] at r1 r2 r3 hrot ⊢
  have hnum : ∀ (u : Dk) (s : Int), u.l = [] → u.text s k = (if s = 0 then u.a.getD k.toNat ET.str.dflt else u.b.getD k.toNat ET.str.dflt) := by
    intro u s hu
    unfold Dk.text
    rw [hu]
    show lateText [] s k (sec (u.a, u.b) s k) 0 = _
    unfold sec; rfl
  have zl : z.l = [] := by rw [r3.2, fl]
  have ny0 := hnum y 0 fl
  have ny1 := hnum y 1 fl
  have nz0 := hnum z 0 zl
  have nz1 := hnum z 1 zl
  rw [if_pos rfl] at ny0 nz0
  rw [if_neg (by decide)] at ny1 nz1
  rw [← ny0, ← ny1, ← nz0, ← nz1, y0, y1] at hrot
  obtain ⟨q0, q1⟩ := hrot
  have zs0 : sector z.a.length 0 k = true := (sector_iff _ _ _).2 ⟨.inl rfl, m1, by omega⟩
  have zs1 : sector z.a.length 1 k = true := (sector_iff _ _ _).2 ⟨.inr rfl, m1, by omega⟩
  have hb : ∀ (u : Dk) (s : Int), sector u.a.length s k = true → u.text s k = t → u.has ⟨k, (sumOf t : Nat), 1⟩ s = true := by
    intro u s hs ht
    exact (has_iff _ _ _).2 ⟨hs, by rw [ht]⟩
  have w0 : z.has ⟨k, (sumOf t : Nat), 1⟩ 0 = true ∧ z.text 0 k = t ∨ z.has ⟨k, (sumOf t : Nat), 1⟩ 0 = false ∧ side = 0 := by
    by_cases hc : z.text 0 k = t
    · exact .inl ⟨hb z 0 zs0 hc, hc⟩
    · obtain ⟨-, c1, -, c2⟩ := q0 hc
      refine .inr ⟨?_, c1⟩
      rw [← Bool.not_eq_true]
      intro hh
      have := ((has_iff _ _ _).1 hh).2
      exact c2 (by simp only at this; omega)
  have w1 : z.has ⟨k, (sumOf t : Nat), 1⟩ 1 = true ∧ z.text 1 k = t ∨ z.has ⟨k, (sumOf t : Nat), 1⟩ 1 = false ∧ side = 1 := by
    by_cases hc : z.text 1 k = t
    · exact .inl ⟨hb z 1 zs1 hc, hc⟩
    · obtain ⟨-, c1, -, c2⟩ := q1 hc
      refine .inr ⟨?_, c1⟩
      rw [← Bool.not_eq_true]
      intro hh
      have := ((has_iff _ _ _).1 hh).2
      exact c2 (by simp only at this; omega)
  have hread : blkRead z ⟨k, (sumOf t : Nat), 1⟩ = (t, 0) := by
    refine blk_fine r1 p2 ?_
    rcases w0 with w0 | ⟨w0, rfl⟩
    · exact .inl w0
    · rcases w1 with w1 | ⟨_, w1⟩
      · exact .inr ⟨w0, w1⟩
      · exact absurd w1 (by decide)
  have zl0 : z.l.length = 0 := by rw [zl]; rfl
  have hside2 : ∀ (u : Dk) (s : Int), u.ok = true → u.has ⟨k, (sumOf t : Nat), 1⟩ s = true → blkSide u ⟨k, (sumOf t : Nat), 1⟩ s = true := by
    intro u s h1 h2; unfold blkSide; rw [h1, h2, p2]; rfl
  have hheal : (blkHeal z ⟨k, (sumOf t : Nat), 1⟩).2 = 0 ∧ blkSide (blkHeal z ⟨k, (sumOf t : Nat), 1⟩).1 ⟨k, (sumOf t : Nat), 1⟩ 0 = true ∧ blkSide (blkHeal z ⟨k, (sumOf t : Nat), 1⟩).1 ⟨k, (sumOf t : Nat), 1⟩ 1 = true := by
    unfold blkHeal
    rw [if_pos r1, hread]
    by_cases hc : z.has ⟨k, (sumOf t : Nat), 1⟩ 0 = z.has ⟨k, (sumOf t : Nat), 1⟩ 1
    · rw [if_pos (.inr hc)]
      rcases w0 with w0 | ⟨w0, rfl⟩
      · exact ⟨rfl, hside2 z 0 r1 w0.1, hside2 z 1 r1 (hc ▸ w0.1)⟩
      · rcases w1 with w1 | ⟨_, w1⟩
        · rw [w0, w1.1] at hc; cases hc
        · exact absurd w1 (by decide)
    · rw [if_neg (by rintro (hh | hh); exact hh rfl; exact hc hh)]
      have hbs : badSide z ⟨k, (sumOf t : Nat), 1⟩ = 0 ∨ badSide z ⟨k, (sumOf t : Nat), 1⟩ = 1 := by unfold badSide; split <;> simp
      have hmay : z.may (badSide z ⟨k, (sumOf t : Nat), 1⟩) k t = true := (may_iff _ _ _ _).2 ⟨hbs, m1, by omega, m3, by omega⟩
      simp only [hmay, if_true]
      refine ⟨trivial, ?_, ?_⟩
      · refine hside2 _ 0 (Dk.add_ok r1 hmay) (hb _ 0 zs0 ?_)
        rw [Dk.add_text]
        unfold badSide
        rcases w0 with w0 | ⟨w0, _⟩
        · simp [w0.1, w0.2]
        · simp [w0]
      · refine hside2 _ 1 (Dk.add_ok r1 hmay) (hb _ 1 zs1 ?_)
        rw [Dk.add_text]
        unfold badSide
        rcases w0 with w0 | ⟨w0, rfl⟩
        · simp [w0.1]
        · rcases w1 with w1 | ⟨_, w1⟩
          · simp [w0, w1.2]
          · exact absurd w1 (by decide)
  refine ⟨blk_fine h4 p2 (.inl ⟨hb _ 0 hs0 x0, x0⟩), hread, hheal.1, hheal.2.1, hheal.2.2, rfl, fun s hs => ?_⟩
  unfold blkRead
  rw [if_neg (by simp only; omega)]
  have n0 : ∀ u, y.text u k = t → y.has ⟨k, s, 1⟩ u = false := by
    intro u hu
    rw [← Bool.not_eq_true]
    intro hh
    have := ((has_iff _ _ _).1 hh).2
    simp only [hu] at this
    exact hs this.symm
  rw [n0 0 y0, n0 1 y1]
  split <;> rfl
end Go.Proofs.YtmnbgppmfbnamaaGreatDoor
/- Plain facts: how large the disks are that come out. -/
namespace Go.Proofs.YtmnbgppmfbnamaaGreatDoor
open Go.RowKit

/-- No larger than a million and a bit. -/
structure Dk.mid (d : Dk) : Prop where
  a : d.a.length ≤ 1100000
  b : d.b.length ≤ 1100000
  l : d.l.length ≤ 1100000
theorem mid_rot {d : Dk} (s i k m : Int) : (dkRot d s i k m).mid := by
  by_cases hok : d.ok = true
  · have := Dk.ok_small (dkRot_ok hok s i k m)
    exact ⟨by omega, by omega, by omega⟩
  · unfold dkRot; rw [if_neg hok]; exact ⟨Nat.zero_le _, Nat.zero_le _, Nat.zero_le _⟩
theorem mid_flush {d : Dk} (h : d.a.length ≤ 1048576 ∧ d.b.length ≤ 1048576 ∧ d.l.length ≤ 1048576) : (dkFlush d).mid := by
  obtain ⟨h1, h2, h3⟩ := flush_small d
  exact ⟨by omega, by omega, by omega⟩
theorem mid_write {d : Dk} (h : d.a.length ≤ 1048576 ∧ d.b.length ≤ 1048576 ∧ d.l.length ≤ 1048576) (s k : Int) (t : ByteArray) : (dkWrite d s k t).mid := by
  obtain ⟨h1, h2, h3⟩ := write_small d s k t
  exact ⟨by omega, by omega, by omega⟩
theorem mid_blk {d : Dk} (h : d.a.length ≤ 1048576 ∧ d.b.length ≤ 1048576 ∧ d.l.length ≤ 1048576) (k : Int) (t : ByteArray) : (blkWrite d k t).mid := by
  unfold blkWrite
  split
  · split
    · refine ⟨show d.a.length ≤ _ by omega, show d.b.length ≤ _ by omega, ?_⟩
      show (d.l ++ [_] ++ [_]).length ≤ _
      simp; omega
    · exact ⟨by omega, by omega, by omega⟩
  · exact ⟨Nat.zero_le _, Nat.zero_le _, Nat.zero_le _⟩
theorem mid_heal {d : Dk} (h : d.a.length ≤ 1048576 ∧ d.b.length ≤ 1048576 ∧ d.l.length ≤ 1048576) (p : Ptr) : (blkHeal d p).1.mid := by
  unfold blkHeal
  repeat' split
  all_goals first | exact ⟨show d.a.length ≤ _ by omega, show d.b.length ≤ _ by omega, show d.l.length ≤ _ by omega⟩ | exact ⟨Nat.zero_le _, Nat.zero_le _, Nat.zero_le _⟩ | (refine ⟨show d.a.length ≤ _ by omega, show d.b.length ≤ _ by omega, ?_⟩; show (d.l ++ [_]).length ≤ _; simp; omega)
theorem mid_fall {d : Dk} (h : d.a.length ≤ 1048576 ∧ d.b.length ≤ 1048576 ∧ d.l.length ≤ 1048576) (f : List Int) : (dkFall d f).mid := by
  obtain ⟨h1, h2, h3⟩ := dkFall_small d f
  exact ⟨by omega, by omega, by rw [h3]; simp⟩
end Go.Proofs.YtmnbgppmfbnamaaGreatDoor
/- Functions: the reference's blocks, read and healed. -/
namespace Go.Proofs.YtmnbgppmfbnamaaGreatDoor
open Go.RowKit

theorem sum_step2 (s : ByteArray) (i : Nat) (hi : i < s.size) : (IntKind.i64.wrap (IntKind.i64.wrap (IntKind.i64.wrap ((sumAt s i : Int) * 257) + IntKind.i64.wrap ((s.data.getD i 0).toNat : Int)) + 1)).tmod 65521 = (sumAt s (i + 1) : Nat) := by
  rw [Int.mul_comm]
  exact sum_step s i hi
@[go_sem] def sgSum2 (s : ByteArray) (i : Nat) : Sg := ⟨[(0, .one (.val (.string s))), (3, vi (sumAt s i)), (4, vi i)], [], []⟩
theorem s_specSum_e : EnterOk Tryz.prog 135 := ⟨_, Tryz.func135, rfl, by decide⟩
@[go_sem] def s_specSum_lv : List (List Nat) := [[0], [0, 3], [0, 3, 4], [0, 3, 4, 12], [0, 3, 4], [0, 3, 4], [2]]
@[go_sem] noncomputable def s_specSum_K : Known := Known.nil
set_option maxHeartbeats 8000000 in
theorem s_specSum : Sound Tryz.prog 135 ctSumOf := by
  have ke := s_specSum_K.env []
  have kl : Lives s_specSum_lv := trivial
  refine sound_intro (E := ⟨ti, s_specSum_K.Γ, []⟩) ke Tryz.func135 Tryz.ntmps135 rfl (rs := [.tmp 2]) rfl ?_
  intro args os hp
  unfold ctSumOf at hp ⊢
  dsimp only at hp ⊢
  split at hp
  · rename_i s
    refine ⟨by simp, fun φ0 w0 => ?_⟩
    have hlen : s.size ≤ 1000000000 := hp
    clear hp
    have hf := sum_first s hlen
    refine goh hf ?_
    refine W_le (σ' := sgSum2 s 0) [] (by
      simp only [go_sem, hf, inj_r, ↓reduceIte, reduceCtorEq, Nat.reduceAdd, Nat.reduceLT, Nat.reduceLeDiff, Nat.reduceEqDiff, Int.reduceEq]
      all_goals (repeat' refine And.intro ?_ ?_) <;> try exact shut7
      ) ?_
    refine W_loop (fun n σ => ∃ i : Nat, i ≤ s.size ∧ n = s.size - i ∧ σ = sgSum2 s i) s.size ⟨0, by omega, by omega, rfl⟩ ?_
    rintro n σ ⟨i, hi, rfl, rfl⟩
    unfold sgSum2
    refine goh trivial ?_
    refine W_cnd ?_ ?_ <;> (try simp only [cnd_r]) <;> intro hlt
    · have hs := sum_step2 s i (by omega)
      refine goh hs ?_
      refine ⟨s.size - (i + 1), [], sgSum2 s (i + 1), by omega, ?_, i + 1, by omega, rfl, rfl⟩
      exact leh hs
    · obtain rfl : i = s.size := by omega
      refine goh trivial ?_
      refine ⟨by (simp only [go_sem, sumOf, ↓reduceIte, reduceCtorEq, Nat.reduceAdd, Nat.reduceLT, Nat.reduceLeDiff, Nat.reduceEqDiff]) <;> trivial, [], ?_⟩
      all_goals try simp only [go_sem, sumOf, inj_r, ↓reduceIte, reduceCtorEq, Nat.reduceAdd, Nat.reduceLT, Nat.reduceLeDiff, Nat.reduceEqDiff, Int.reduceEq]
      all_goals (repeat' refine And.intro ?_ ?_) <;> try exact shut7
  · simp [no, ifp] at hp
theorem s_specText_e : EnterOk Tryz.prog 214 := ⟨_, Tryz.func214, rfl, by decide⟩
@[go_sem] def s_specText_lv : List (List Nat) := [[1, 2, 3], [1, 2, 3, 7], [1, 2, 3, 7, 13], [1, 2, 3, 7], [1, 2, 3, 7, 33], [6], [6]]
@[go_sem] noncomputable def s_specText_K : Known := Known.nil
set_option maxHeartbeats 8000000 in
theorem s_specText : Sound Tryz.prog 214 ctTextOf := by
  have ke := s_specText_K.env []
  have kl : Lives s_specText_lv := trivial
  refine sound_intro (E := ⟨ti, s_specText_K.Γ, []⟩) ke Tryz.func214 Tryz.ntmps214 rfl (rs := [.tmp 6]) rfl ?_
  intro args os hp
  unfold ctTextOf at hp ⊢
  dsimp only at hp ⊢
  split at hp
  · rename_i a b l s k
    refine ⟨by simp, fun φ0 w0 => ?_⟩
    obtain ⟨⟨h1, h2, h3⟩, hab, hs⟩ : (a.length ≤ 4000000 ∧ b.length ≤ 4000000 ∧ l.length ≤ 4000000) ∧ b.length = a.length ∧ sector a.length s k = true := hp
    obtain ⟨ws, w1, w2⟩ := (sector_iff _ _ _).1 hs
    have hw : IntKind.i64.wrap ((l.length : Int) - 1) = (l.length : Int) - 1 := wrap_id _ (by omega) (by omega)
    refine goh hw ?_
    refine W_le (σ' := sgTx a b l s k l.length) [some 0] (by
      simp only [go_sem, inj_r, ↓reduceIte, reduceCtorEq, Nat.reduceAdd, Nat.reduceLT, Nat.reduceLeDiff, Nat.reduceEqDiff, Int.reduceEq]
      all_goals (repeat' refine And.intro ?_ ?_) <;> try exact shut7
      ) ?_
    refine W_loop (fun n σ => n ≤ l.length ∧ lateText l s k (sec (a, b) s k) n = (Dk.mk a b l).text s k ∧ σ = sgTx a b l s k n) l.length ⟨Nat.le_refl _, rfl, rfl⟩ ?_
    rintro n σ ⟨hn, ht, rfl⟩
    unfold sgTx
    refine goh trivial ?_
    refine W_cnd ?_ ?_ <;> (try simp only [cnd_r]) <;> intro hlt
    · obtain ⟨m, rfl⟩ : ∃ m, n = m + 1 := ⟨n - 1, by omega⟩
      have e1 : ((m + 1 : Nat) : Int) - 1 = (m : Int) := by omega
      have e2 : IntKind.i64.wrap ((m : Int) - 1) = (m : Int) - 1 := wrap_id _ (by omega) (by omega)
      refine goh e1 ?_
      refine W_cnd ?_ ?_ <;> (try simp only [cnd_r]) <;> intro hc
      · have ht2 : lateText l s k (sec (a, b) s k) (m + 1) = (ET.late.at l m).text := if_pos hc
        refine goh trivial ?_
        refine ⟨by (simp only [go_sem, ↓reduceIte, reduceCtorEq, Nat.reduceAdd, Nat.reduceLT, Nat.reduceLeDiff, Nat.reduceEqDiff]) <;> trivial, [], ?_⟩
        all_goals try simp only [go_sem, inj_r, ↓reduceIte, reduceCtorEq, Nat.reduceAdd, Nat.reduceLT, Nat.reduceLeDiff, Nat.reduceEqDiff, Int.reduceEq]
        all_goals (repeat' refine And.intro ?_ ?_) <;> try exact shut7
        rw [← ht, ht2]; rfl
      · have ht2 : lateText l s k (sec (a, b) s k) (m + 1) = lateText l s k (sec (a, b) s k) m := by
          refine if_neg ?_
          rintro ⟨q1, q2⟩
          rcases hc with h | h
          · exact h q1
          · rw [beq_eq_false_iff_ne] at h; exact h q2
        refine goh e2 ?_
        refine ⟨m, [some 0], sgTx a b l s k m, by omega, ?_, by omega, ht2 ▸ ht, rfl⟩
        exact leh trivial
    · obtain rfl : n = 0 := by omega
      rcases ws with rfl | rfl
      all_goals
        refine goh trivial ?_
        refine ⟨by (simp only [go_sem, ← ht, lateText, sec, ↓reduceIte, reduceCtorEq, Nat.reduceAdd, Nat.reduceLT, Nat.reduceLeDiff, Nat.reduceEqDiff]) <;> trivial, [], ?_⟩
        all_goals try simp only [go_sem, ← ht, lateText, sec, inj_r, ↓reduceIte, reduceCtorEq, Nat.reduceAdd, Nat.reduceLT, Nat.reduceLeDiff, Nat.reduceEqDiff, Int.reduceEq]
        all_goals (repeat' refine And.intro ?_ ?_) <;> try exact shut7
  · simp [no, ifp] at hp
theorem s_specRead_e : EnterOk Tryz.prog 146 := ⟨_, Tryz.func146, rfl, by decide⟩
@[go_sem] def s_specRead_lv : List (List Nat) := [[1, 2, 3], [1, 2, 3, 17], [6, 7], [6, 7]]
@[go_sem] noncomputable def s_specRead_K : Known := (((Known.nil).cons 88 ctDiskOk s_specDiskOk s_specDiskOk_e).cons 154 ctThere s_there s_there_e).cons 214 ctTextOf s_specText s_specText_e
set_option maxHeartbeats 8000000 in
theorem s_specRead : Sound Tryz.prog 146 ctDiskRead := by
  have ke := s_specRead_K.env []
  have kl : Lives s_specRead_lv := trivial
  refine sound_intro (E := ⟨ti, s_specRead_K.Γ, []⟩) ke Tryz.func146 Tryz.ntmps146 rfl (rs := [.tmp 6, .tmp 7]) rfl ?_
  intro args os hp
  unfold ctDiskRead at hp ⊢
  dsimp only at hp ⊢
  split at hp
  · rename_i a b l s k
    refine ⟨by simp, fun φ0 w0 => ?_⟩
    obtain ⟨h1, h2, h3⟩ : a.length ≤ 4000000 ∧ b.length ≤ 4000000 ∧ l.length ≤ 4000000 := hp
    have e1 : dkReads ⟨a, b, l⟩ s k = ((Dk.mk a b l).ok && sector a.length s k) := rfl
    have e2 : dkRead ⟨a, b, l⟩ s k = if dkReads ⟨a, b, l⟩ s k then (Dk.mk a b l).text s k else ⟨#[]⟩ := rfl
    have e4 := fits_sector a.length s k
    refine goh e4 ?_
    refine W_cnd ?_ ?_ <;> (try simp only [cnd_r]) <;> intro hc
    · have e3 : dkReads ⟨a, b, l⟩ s k = false := by
        rw [e1]
        rcases hc with h | h <;> simp [h]
      refine goh trivial ?_
      exact finh [] (And.intro e2 e3)
    · obtain ⟨hok, hs⟩ : (Dk.mk a b l).ok = true ∧ sector a.length s k = true := by simpa using hc
      have e3 : dkReads ⟨a, b, l⟩ s k = true := by rw [e1, hok, hs]; rfl
      obtain ⟨-, -, hab, -⟩ := (Dk.ok_iff _).1 hok
      simp only at hab
      refine goh trivial ?_
      exact finh [] (And.intro e2 e3)
  · simp [no, ifp] at hp
theorem ptrOk_zero {a s b : Int} (h : a = 0) : ptrOkB ⟨a, s, b⟩ = (decide (a = 0) && decide (s = 0) && decide (b = 0)) := by
  subst h; unfold ptrOkB; simp
theorem s_specPtrOk_e : EnterOk Tryz.prog 158 := ⟨_, Tryz.func158, rfl, by decide⟩
@[go_sem] def s_specPtrOk_lv : List (List Nat) := [[1], [1, 5], [2], [2]]
@[go_sem] noncomputable def s_specPtrOk_K : Known := Known.nil
set_option maxHeartbeats 8000000 in
theorem s_specPtrOk : Sound Tryz.prog 158 ctPtrOk := by
  have ke := s_specPtrOk_K.env []
  have kl : Lives s_specPtrOk_lv := trivial
  refine sound_intro (E := ⟨ti, s_specPtrOk_K.Γ, []⟩) ke Tryz.func158 Tryz.ntmps158 rfl (rs := [.tmp 2]) rfl ?_
  intro args os hp
  unfold ctPtrOk at hp ⊢
  dsimp only at hp ⊢
  split at hp
  · rename_i a s b
    refine ⟨by simp, fun φ0 w0 => ?_⟩
    clear hp
    refine goh trivial ?_
    refine W_cnd ?_ ?_ <;> (try simp only [cnd_r]) <;> intro hc
    · refine goh trivial ?_
      refine ⟨by (simp only [go_sem, ↓reduceIte, reduceCtorEq, Nat.reduceAdd, Nat.reduceLT, Nat.reduceLeDiff, Nat.reduceEqDiff]) <;> trivial, [], ?_⟩
      all_goals try simp only [go_sem, inj_r, ↓reduceIte, reduceCtorEq, Nat.reduceAdd, Nat.reduceLT, Nat.reduceLeDiff, Nat.reduceEqDiff, Int.reduceEq]
      all_goals (repeat' refine And.intro ?_ ?_) <;> try exact shut7
      rw [same_ptr, ptrOk_zero hc]
    · refine goh trivial ?_
      refine ⟨by (simp only [go_sem, ↓reduceIte, reduceCtorEq, Nat.reduceAdd, Nat.reduceLT, Nat.reduceLeDiff, Nat.reduceEqDiff]) <;> trivial, [], ?_⟩
      all_goals try simp only [go_sem, inj_r, ↓reduceIte, reduceCtorEq, Nat.reduceAdd, Nat.reduceLT, Nat.reduceLeDiff, Nat.reduceEqDiff, Int.reduceEq]
      all_goals (repeat' refine And.intro ?_ ?_) <;> try exact shut7
      rw [ptrOkB, Bool.eq_iff_iff]
      simp only [Bool.if_true_left, Bool.if_false_right, Bool.or_eq_true, Bool.and_eq_true, decide_eq_true_eq, Bool.decide_eq_true, and_assoc]
      have hc2 : a ≠ 0 := by simpa using hc
      omega
  · simp [no] at hp
theorem dkRead_size (d : Dk) (s k : Int) : (dkRead d s k).size ≤ 420 := by
  unfold dkRead
  split
  · rename_i h
    unfold dkReads at h
    rw [Bool.and_eq_true] at h
    exact Dk.text_size h.1 s k
  · exact Nat.zero_le _
theorem side_eq (d : Dk) (a s b i : Int) : blkSide d ⟨a, s, b⟩ i = (dkReads d i a && ptrOkB ⟨a, s, b⟩ && decide (a > 0) && decide ((sumOf (dkRead d i a) : Int) = s)) := by
  unfold blkSide realB Dk.has
  by_cases h : dkReads d i a = true
  · have h2 : dkRead d i a = d.text i a := by unfold dkRead; rw [if_pos h]
    have h3 := h
    unfold dkReads at h3
    rw [Bool.and_eq_true] at h3
    rw [h, h2, h3.1]
    simp only [h3.2, Bool.true_and]
    by_cases hp : ptrOkB ⟨a, s, b⟩ = true
    · have e : (!(a == 0)) = decide (a > 0) := by
        rw [Bool.eq_iff_iff]
        unfold ptrOkB at hp
        simp only [Bool.and_eq_true, Bool.or_eq_true, decide_eq_true_eq, Bool.not_eq_true', beq_eq_false_iff_ne, ne_eq] at hp ⊢
        omega
      rw [hp, e]
    · rw [show ptrOkB ⟨a, s, b⟩ = false by simpa using hp]; simp
  · rw [show dkReads d i a = false by simpa using h]
    have h3 : (d.ok && sector d.a.length i a) = false := by unfold dkReads at h; simpa using h
    simp only [Bool.false_and]
    rw [Bool.and_eq_false_iff] at h3
    rcases h3 with h3 | h3 <;> simp [h3]
theorem ptrOk_at {a s b : Int} : (ptrOkB ⟨a, s, b⟩ = true ∧ a = 0) ↔ (a = 0 ∧ s = 0 ∧ b = 0) := by
  constructor
  · rintro ⟨h, rfl⟩
    rw [ptrOk_zero rfl] at h
    simpa using h
  · rintro ⟨rfl, rfl, rfl⟩; exact ⟨by decide, rfl⟩
theorem read_side (d : Dk) (a s b : Int) (h : ¬ (a = 0 ∧ s = 0 ∧ b = 0)) : blkRead d ⟨a, s, b⟩ = if blkSide d ⟨a, s, b⟩ 0 = true then (d.text 0 a, 0) else if blkSide d ⟨a, s, b⟩ 1 = true then (d.text 1 a, 0) else (⟨#[]⟩, 2) := by
  unfold blkRead blkSide
  rw [if_neg h]
  cases d.ok <;> cases realB ⟨a, s, b⟩ <;> simp
theorem side_sector {d : Dk} {a s b i : Int} (h : blkSide d ⟨a, s, b⟩ i = true) : d.ok = true ∧ sector d.a.length i a = true := by
  unfold blkSide Dk.has at h
  simp only [Bool.and_eq_true] at h
  exact ⟨h.1.1, h.2.1⟩
theorem side_has {d : Dk} {p : Ptr} (h : (blkRead d p).2 = 0) (i : Int) : blkSide d p i = d.has p i := by
  unfold blkRead at h
  split at h
  · simp at h
  · split at h
    · rename_i h2
      unfold blkSide; rw [h2, Bool.true_and]
    · simp at h
@[go_sem] def sgSr (a b : List ByteArray) (l : List Late) (pa ps pb i : Int) : Sg := ⟨[(2, .one (.ptr 0 0)), (3, .one (.ptr 1 0)), (6, vi i)], [some (.cells [.isl .str a, .isl .str b, .isl .late l]), some (.cells [.val (.int .i64 pa), .val (.int .i64 ps), .val (.int .i64 pb)])], []⟩
end Go.Proofs.YtmnbgppmfbnamaaGreatDoor
/- Functions: single sets. -/
namespace Go.Proofs.YtmnbgppmfbnamaaGreatDoor
open Go.RowKit

@[go_sem] noncomputable def ctBadPtr : Ct := ⟨false, [], fun args os => match args, os with
  | [.agg [.val (.int .i64 a), .val (.int .i64 s), .val (.int .i64 b)]], [] => is (vb (badPtr ⟨a, s, b⟩))
  | _, _ => no⟩
theorem s_setOk1_e : EnterOk Tryz.prog 225 := ⟨_, Tryz.func225, rfl, by decide⟩
@[go_sem] def s_setOk1_lv : List (List Nat) := [[1], [2]]
@[go_sem] noncomputable def s_setOk1_K : Known := (Known.nil).cons 223 ctPtrOk s_ptrOk s_ptrOk_e
set_option maxHeartbeats 8000000 in
theorem s_setOk1 : Sound Tryz.prog 225 ctBadPtr := by
  have ke := s_setOk1_K.env []
  have kl : Lives s_setOk1_lv := trivial
  refine sound_intro (E := ⟨ti, s_setOk1_K.Γ, []⟩) ke Tryz.func225 Tryz.ntmps225 rfl (rs := [.tmp 2]) rfl ?_
  intro args os hp
  unfold ctBadPtr at hp ⊢
  dsimp only at hp ⊢
  split at hp
  · rename_i a s b
    refine ⟨by simp, fun φ0 w0 => ?_⟩
    refine goh trivial ?_
    refine ⟨by (simp only [go_sem, badPtr, ↓reduceIte, reduceCtorEq, Nat.reduceAdd, Nat.reduceLT, Nat.reduceLeDiff, Nat.reduceEqDiff]) <;> trivial, [], ?_⟩
    all_goals try simp only [go_sem, badPtr, inj_r, ↓reduceIte, reduceCtorEq, Nat.reduceAdd, Nat.reduceLT, Nat.reduceLeDiff, Nat.reduceEqDiff, Int.reduceEq]
    all_goals (repeat' refine And.intro ?_ ?_) <;> try exact shut7
  · simp [no, is] at hp
@[go_sem] noncomputable def ctPartBad : Ct := ⟨false, [], fun args os => match args, os with
  | [.agg [.val (.int .i64 a), .val (.int .i64 s), .val (.int .i64 b)]], [] => is (vb (partBad ⟨a, s, b⟩))
  | _, _ => no⟩
theorem s_coreOk1_e : EnterOk Tryz.prog 170 := ⟨_, Tryz.func170, rfl, by decide⟩
@[go_sem] def s_coreOk1_lv : List (List Nat) := [[1], [2]]
@[go_sem] noncomputable def s_coreOk1_K : Known := (Known.nil).cons 171 ctReal s_isReal s_isReal_e
set_option maxHeartbeats 8000000 in
theorem s_coreOk1 : Sound Tryz.prog 170 ctPartBad := by
  have ke := s_coreOk1_K.env []
  have kl : Lives s_coreOk1_lv := trivial
  refine sound_intro (E := ⟨ti, s_coreOk1_K.Γ, []⟩) ke Tryz.func170 Tryz.ntmps170 rfl (rs := [.tmp 2]) rfl ?_
  intro args os hp
  unfold ctPartBad at hp ⊢
  dsimp only at hp ⊢
  split at hp
  · rename_i a s b
    refine ⟨by simp, fun φ0 w0 => ?_⟩
    refine goh trivial ?_
    refine ⟨by (simp only [go_sem, partBad, ↓reduceIte, reduceCtorEq, Nat.reduceAdd, Nat.reduceLT, Nat.reduceLeDiff, Nat.reduceEqDiff]) <;> trivial, [], ?_⟩
    all_goals try simp only [go_sem, partBad, inj_r, ↓reduceIte, reduceCtorEq, Nat.reduceAdd, Nat.reduceLT, Nat.reduceLeDiff, Nat.reduceEqDiff, Int.reduceEq]
    all_goals (repeat' refine And.intro ?_ ?_) <;> try exact shut7
  · simp [no, is] at hp
@[go_sem] noncomputable def ctIxBadPtr : Ct := ⟨false, [[some .ptr]], fun args os => match args, os with
  | [.one (.isl .ptr xs), .one (.fn 225 [])], [] => ifp (xs.length ≤ 4000000) (vi (firstAt badPtr xs))
  | _, _ => no⟩
theorem s_ixBadPtr_e : EnterOk Tryz.prog 222 := ⟨_, Tryz.func222, rfl, by decide⟩
@[go_sem] def s_ixBadPtr_lv : List (List Nat) := [[0, 1], [0, 1, 7, 8], [0, 1, 7, 8, 9], [0, 1, 5, 7, 8], [0, 1, 5, 7, 8, 16], [4], [0, 1, 7, 8], [4]]
@[go_sem] noncomputable def s_ixBadPtr_K : Known := (Known.nil).cons 225 ctBadPtr s_setOk1 s_setOk1_e
set_option maxHeartbeats 8000000 in
theorem s_ixBadPtr : Sound Tryz.prog 222 ctIxBadPtr := by
  have ke := s_ixBadPtr_K.env []
  have kl : Lives s_ixBadPtr_lv := trivial
  refine sound_intro (E := ⟨ti, s_ixBadPtr_K.Γ, []⟩) ke Tryz.func222 Tryz.ntmps222 rfl (rs := [.tmp 4]) rfl ?_
  intro args os hp
  unfold ctIxBadPtr at hp ⊢
  dsimp only at hp ⊢
  split at hp
  · rename_i xs
    refine ⟨by simp, fun φ0 w0 => ?_⟩
    have hlen : xs.length ≤ 4000000 := hp
    refine goh trivial ?_
    refine W_for xs.length (fun i => ∀ j, j < i → badPtr (xs.getD j ET.ptr.dflt) = false) (fun i => ⟨[(8, vi i), (7, vi xs.length), (0, .one (.isl .ptr xs)), (1, .one (.fn 225 []))], [], []⟩) [] (leh trivial) (by omega) fun i hi hb => ?_
    refine goh trivial ?_
    refine W_cnd ?_ ?_ <;> (try simp only [cnd_r]) <;> intro hlt
    · refine goh trivial ?_
      refine W_cnd ?_ ?_ <;> (try simp only [cnd_r]) <;> intro hl
      · have e : firstAt badPtr xs = i := firstAt_some (d := ET.ptr.dflt) (by omega) hb hl
        refine goh trivial ?_
        exact finh [] e
      · refine goh trivial ?_
        exact ⟨[], by omega, leh trivial, fun j hj => by
          rcases Nat.lt_succ_iff_lt_or_eq.1 hj with h | rfl
          · exact hb j h
          · exact hl⟩
    · have e : firstAt badPtr xs = -1 := firstAt_none (d := ET.ptr.dflt) fun j hj => hb j (by omega)
      refine goh trivial ?_
      exact finh [] e
  · simp [no, ifp] at hp
@[go_sem] noncomputable def ctHasBadPtr : Ct := ⟨false, [[some .ptr]], fun args os => match args, os with
  | [.one (.isl .ptr xs), .one (.fn 225 [])], [] => ifp (xs.length ≤ 4000000) (vb (xs.any badPtr))
  | _, _ => no⟩
theorem s_hasBadPtr_e : EnterOk Tryz.prog 169 := ⟨_, Tryz.func169, rfl, by decide⟩
@[go_sem] def s_hasBadPtr_lv : List (List Nat) := [[0, 1], [4]]
@[go_sem] noncomputable def s_hasBadPtr_K : Known := (Known.nil).cons 222 ctIxBadPtr s_ixBadPtr s_ixBadPtr_e
set_option maxHeartbeats 8000000 in
theorem s_hasBadPtr : Sound Tryz.prog 169 ctHasBadPtr := by
  have ke := s_hasBadPtr_K.env []
  have kl : Lives s_hasBadPtr_lv := trivial
  refine sound_intro (E := ⟨ti, s_hasBadPtr_K.Γ, []⟩) ke Tryz.func169 Tryz.ntmps169 rfl (rs := [.tmp 4]) rfl ?_
  intro args os hp
  unfold ctHasBadPtr at hp ⊢
  dsimp only at hp ⊢
  split at hp
  · rename_i xs
    refine ⟨by simp, fun φ0 w0 => ?_⟩
    have hlen : xs.length ≤ 4000000 := hp
    refine goh trivial ?_
    refine ⟨by (simp only [go_sem, ↓reduceIte, reduceCtorEq, Nat.reduceAdd, Nat.reduceLT, Nat.reduceLeDiff, Nat.reduceEqDiff]) <;> trivial, [], ?_⟩
    all_goals try simp only [go_sem, inj_r, ↓reduceIte, reduceCtorEq, Nat.reduceAdd, Nat.reduceLT, Nat.reduceLeDiff, Nat.reduceEqDiff, Int.reduceEq]
    all_goals (repeat' refine And.intro ?_ ?_) <;> try exact shut7
    exact firstAt_ge _ _
  · simp [no, ifp] at hp
@[go_sem] noncomputable def ctIxPart : Ct := ⟨false, [[some .ptr]], fun args os => match args, os with
  | [.one (.isl .ptr xs), .one (.fn 170 [])], [] => ifp (xs.length ≤ 4000000) (vi (firstAt partBad xs))
  | _, _ => no⟩
theorem s_ixPart_e : EnterOk Tryz.prog 222 := ⟨_, Tryz.func222, rfl, by decide⟩
@[go_sem] def s_ixPart_lv : List (List Nat) := [[0, 1], [0, 1, 7, 8], [0, 1, 7, 8, 9], [0, 1, 5, 7, 8], [0, 1, 5, 7, 8, 16], [4], [0, 1, 7, 8], [4]]
@[go_sem] noncomputable def s_ixPart_K : Known := (Known.nil).cons 170 ctPartBad s_coreOk1 s_coreOk1_e
set_option maxHeartbeats 8000000 in
theorem s_ixPart : Sound Tryz.prog 222 ctIxPart := by
  have ke := s_ixPart_K.env []
  have kl : Lives s_ixPart_lv := trivial
  refine sound_intro (E := ⟨ti, s_ixPart_K.Γ, []⟩) ke Tryz.func222 Tryz.ntmps222 rfl (rs := [.tmp 4]) rfl ?_
  intro args os hp
  unfold ctIxPart at hp ⊢
  dsimp only at hp ⊢
  split at hp
  · rename_i xs
    refine ⟨by simp, fun φ0 w0 => ?_⟩
    have hlen : xs.length ≤ 4000000 := hp
    refine goh trivial ?_
    refine W_for xs.length (fun i => ∀ j, j < i → partBad (xs.getD j ET.ptr.dflt) = false) (fun i => ⟨[(8, vi i), (7, vi xs.length), (0, .one (.isl .ptr xs)), (1, .one (.fn 170 []))], [], []⟩) [] (leh trivial) (by omega) fun i hi hb => ?_
    refine goh trivial ?_
    refine W_cnd ?_ ?_ <;> (try simp only [cnd_r]) <;> intro hlt
    · refine goh trivial ?_
      refine W_cnd ?_ ?_ <;> (try simp only [cnd_r]) <;> intro hl
      · have e : firstAt partBad xs = i := firstAt_some (d := ET.ptr.dflt) (by omega) hb hl
        refine goh trivial ?_
        exact finh [] e
      · refine goh trivial ?_
        exact ⟨[], by omega, leh trivial, fun j hj => by
          rcases Nat.lt_succ_iff_lt_or_eq.1 hj with h | rfl
          · exact hb j h
          · exact hl⟩
    · have e : firstAt partBad xs = -1 := firstAt_none (d := ET.ptr.dflt) fun j hj => hb j (by omega)
      refine goh trivial ?_
      exact finh [] e
  · simp [no, ifp] at hp
@[go_sem] noncomputable def ctHasPart : Ct := ⟨false, [[some .ptr]], fun args os => match args, os with
  | [.one (.isl .ptr xs), .one (.fn 170 [])], [] => ifp (xs.length ≤ 4000000) (vb (xs.any partBad))
  | _, _ => no⟩
theorem s_hasPart_e : EnterOk Tryz.prog 169 := ⟨_, Tryz.func169, rfl, by decide⟩
@[go_sem] def s_hasPart_lv : List (List Nat) := [[0, 1], [4]]
@[go_sem] noncomputable def s_hasPart_K : Known := (Known.nil).cons 222 ctIxPart s_ixPart s_ixPart_e
set_option maxHeartbeats 8000000 in
theorem s_hasPart : Sound Tryz.prog 169 ctHasPart := by
  have ke := s_hasPart_K.env []
  have kl : Lives s_hasPart_lv := trivial
  refine sound_intro (E := ⟨ti, s_hasPart_K.Γ, []⟩) ke Tryz.func169 Tryz.ntmps169 rfl (rs := [.tmp 4]) rfl ?_
  intro args os hp
  unfold ctHasPart at hp ⊢
  dsimp only at hp ⊢
  split at hp
  · rename_i xs
    refine ⟨by simp, fun φ0 w0 => ?_⟩
    have hlen : xs.length ≤ 4000000 := hp
    refine goh trivial ?_
    refine ⟨by (simp only [go_sem, ↓reduceIte, reduceCtorEq, Nat.reduceAdd, Nat.reduceLT, Nat.reduceLeDiff, Nat.reduceEqDiff]) <;> trivial, [], ?_⟩
    all_goals try simp only [go_sem, inj_r, ↓reduceIte, reduceCtorEq, Nat.reduceAdd, Nat.reduceLT, Nat.reduceLeDiff, Nat.reduceEqDiff, Int.reduceEq]
    all_goals (repeat' refine And.intro ?_ ?_) <;> try exact shut7
    exact firstAt_ge _ _
  · simp [no, ifp] at hp
structure CSet.small (s : CSet) : Prop where
  name : s.name.size ≤ 9223372036854775807
  from_ : s.from_.size ≤ 9223372036854775807
@[go_sem] noncomputable def ctSetOk : Ct := ⟨false, [], fun args os => match args, os with
  | [.agg cs], [] => (match csetOf cs with | some s => ifp s.small (vb (csetB s)) | none => no)
  | _, _ => no⟩
theorem s_setOk_e : EnterOk Tryz.prog 174 := ⟨_, Tryz.func174, rfl, by decide⟩
@[go_sem] def s_setOk_lv : List (List Nat) := [[1], [1, 33], [2], [2]]
@[go_sem] noncomputable def s_setOk_K : Known := ((((Known.nil).cons 47 ctName s_bookName s_bookName_e).cons 223 ctPtrOk s_ptrOk s_ptrOk_e).cons 169 ctHasBadPtr s_hasBadPtr s_hasBadPtr_e).cons 225 ctBadPtr s_setOk1 s_setOk1_e
set_option maxHeartbeats 8000000 in
theorem s_setOk : Sound Tryz.prog 174 ctSetOk := by
  have ke := s_setOk_K.env []
  have kl : Lives s_setOk_lv := trivial
  refine sound_intro (E := ⟨ti, s_setOk_K.Γ, []⟩) ke Tryz.func174 Tryz.ntmps174 rfl (rs := [.tmp 2]) rfl ?_
  intro args os hp
  unfold ctSetOk at hp ⊢
  dsimp only at hp ⊢
  split at hp
  · rename_i cs
    split at hp
    · rename_i s hs
      obtain rfl := csetOf_some hs
      obtain ⟨h1, h2⟩ : s.small := hp
      clear hs
      refine ⟨by simp, fun φ0 w0 => ?_⟩
      refine goh trivial ?_
      refine W_cnd ?_ ?_ <;> (try simp only [cnd_r]) <;> intro hc
      · have e := csetB_no hc
        refine goh trivial ?_
        exact finh [] e
      · have e := csetB_yes hc
        simp only [Eight.list, List.any_cons, List.any_nil, Bool.or_false] at e
        refine goh trivial ?_
        exact finh [] e
    · simp [no] at hp
  · simp [no] at hp
theorem s_l6Set_e : EnterOk Tryz.prog 157 := ⟨_, Tryz.func157, rfl, by decide⟩
@[go_sem] def s_l6Set_lv : List (List Nat) := [[1], [1, 34], [2], [1, 3], [1, 3, 36], [1, 3], [1, 3, 44], [2], [2]]
@[go_sem] noncomputable def s_l6Set_K : Known := ((Known.nil).cons 59 ctName s_specName s_specName_e).cons 158 ctPtrOk s_specPtrOk s_specPtrOk_e
set_option maxHeartbeats 8000000 in
theorem s_l6Set : Sound Tryz.prog 157 ctSetOk := by
  have ke := s_l6Set_K.env []
  have kl : Lives s_l6Set_lv := trivial
  refine sound_intro (E := ⟨ti, s_l6Set_K.Γ, []⟩) ke Tryz.func157 Tryz.ntmps157 rfl (rs := [.tmp 2]) rfl ?_
  intro args os hp
  unfold ctSetOk at hp ⊢
  dsimp only at hp ⊢
  split at hp
  · rename_i cs
    split at hp
    · rename_i s hs
      obtain rfl := csetOf_some hs
      obtain ⟨h1, h2⟩ : s.small := hp
      clear hs
      refine ⟨by simp, fun φ0 w0 => ?_⟩
      refine goh trivial ?_
      refine W_cnd ?_ ?_ <;> (try simp only [cnd_r]) <;> intro hc
      · have e : csetB s = false := csetB_no (by
          rcases hc with ((h | h) | h) | h
          · exact .inl (.inl h)
          · exact .inl (.inr (by omega))
          · exact .inl (.inr (by omega))
          · exact .inr h)
        refine goh trivial ?_
        exact finh [] e
      · have e : csetB s = !s.map.list.any badPtr := csetB_yes ⟨⟨hc.1.1.1, fun _ => by omega⟩, hc.2⟩
        refine goh trivial ?_
        refine W_for 8 (fun i => (s.map.list.take i).any badPtr = false) (fun i => ⟨[(1, .one (.ptr 0 0)), (3, vi i)], [some (.cells ((ET.cset.cells s).map .val))], []⟩) [some 0] (leh trivial) rfl fun i hi hb => ?_
        rcases (show i < 8 ∨ i = 8 by omega) with hi8 | hc8
        · rcases (show i = 0 ∨ i = 1 ∨ i = 2 ∨ i = 3 ∨ i = 4 ∨ i = 5 ∨ i = 6 ∨ i = 7 by omega) with hc8 | hc8 | hc8 | hc8 | hc8 | hc8 | hc8 | hc8
          all_goals
            subst hc8
            refine goh trivial ?_
            refine W_cnd ?_ ?_ <;> intro hlit <;> try (cases hlit; done)
            refine goh trivial ?_
            refine W_cnd ?_ ?_ <;> (try simp only [cnd_r]) <;> intro hl
            · have e : csetB s = false := by
                rw [e]
                simp only [Eight.list, List.any_cons, List.any_nil, Bool.or_false, badPtr, hl, Bool.not_false, Bool.true_or, Bool.or_true, Bool.not_true]
              refine goh trivial ?_
              exact finh [] e
            · refine goh trivial ?_
              exact ⟨[some 0], by omega, leh trivial, by
                simp only [Eight.list, List.take_succ_cons, List.take_zero, List.any_cons, List.any_nil, Bool.or_false, badPtr, Bool.or_eq_false_iff] at hb ⊢
                simp only [hb, hl, Bool.not_true, and_self]⟩
        · subst hc8
          have e : csetB s = true := by rw [e, show s.map.list = s.map.list.take 8 from rfl, hb]; rfl
          refine goh trivial ?_
          refine W_cnd ?_ ?_ <;> intro hlit <;> try (cases hlit; done)
          refine goh trivial ?_
          exact finh [] e
    · simp [no] at hp
  · simp [no] at hp
end Go.Proofs.YtmnbgppmfbnamaaGreatDoor
/- Functions: the book of a core's sets; sets that are not well formed. -/
namespace Go.Proofs.YtmnbgppmfbnamaaGreatDoor
open Go.RowKit

@[go_sem] noncomputable def ctFrame : Ct := ⟨false, [[none, some .cset, some .ent, some .ptr, none, some .int, none]], fun args os => match args, os with
  | [.agg [.val (.int .i64 txg), .isl .cset cs, .isl .ent es, .isl .ptr ps, .val (.bool dirty), .isl .int zs, .val (.int .i64 logn)]], [] => ⟨cs.length ≤ 4000000, .agg [.osl .bset 0 0 (frameOf cs).length], [], [.arr .bset (frameOf cs)]⟩
  | _, _ => no⟩
attribute [go_sem] Eight.rep
theorem frame_takes (cs : List CSet) (i : Nat) : (frameOf (cs.take i)).take i = frameOf (cs.take i) := List.take_of_length_le (by rw [frame_len, List.length_take]; omega)
theorem frame_end {cs : List CSet} {i : Nat} (h : cs.length ≤ i) : frameOf (cs.take i) = frameOf cs := by rw [List.take_of_length_le h]
theorem s_frame_e : EnterOk Tryz.prog 176 := ⟨_, Tryz.func176, rfl, by decide⟩
@[go_sem] def s_frame_lv : List (List Nat) := [[1, 2], [1, 2, 3], [2, 3, 7, 8, 9], [2, 3, 7, 8, 9, 10], [2, 3, 5, 7, 8, 9], [2, 3, 7, 8, 9], [2, 3, 7, 8, 9], [2]]
@[go_sem] noncomputable def s_frame_K : Known := Known.nil
set_option maxHeartbeats 8000000 in
theorem s_frame : Sound Tryz.prog 176 ctFrame := by
  have ke := s_frame_K.env []
  have kl : Lives s_frame_lv := trivial
  refine sound_intro (E := ⟨ti, s_frame_K.Γ, []⟩) ke Tryz.func176 Tryz.ntmps176 rfl (rs := [.cell 2 195]) rfl ?_
  intro args os hp
  unfold ctFrame at hp ⊢
  dsimp only at hp ⊢
  split at hp
  · rename_i txg cs es ps dirty zs logn
    refine ⟨by simp, fun φ0 w0 => ?_⟩
    have hlen : cs.length ≤ 4000000 := hp
    refine goh trivial ?_
    refine W_for cs.length (fun i => True) (fun i => ⟨[(2, .one (.ptr 0 0)), (3, .one (.ptr 1 0)), (7, .one (.isl .cset cs)), (8, vi cs.length), (9, vi i)], [some (.cells [.val (.slice none 0 0)]), some (.cells [.osl .bset 2 0 i]), some (.arr .bset (frameOf (cs.take i)))], []⟩) [some 1, some 2, none] (leh trivial) trivial fun i hi _ => ?_
    refine goh trivial ?_
    refine W_cnd ?_ ?_ <;> (try simp only [cnd_r]) <;> intro hlt
    · have hk := frame_take (show i < cs.length by omega)
      have hl : (frameOf (cs.take i)).length = i := by rw [frame_len, List.length_take]; omega
      refine goh hl ?_
      exact ⟨[some 0, some 1, some 5], by omega, leh (And.intro (frame_takes cs i) hk), trivial⟩
    · have e := frame_end (show cs.length ≤ i by omega)
      obtain rfl : i = cs.length := by omega
      refine goh trivial ?_
      exact finh [some 2] (And.intro e ((frame_len cs)))
  · simp [no, ifp] at hp
theorem s_l6Names_e : EnterOk Tryz.prog 160 := ⟨_, Tryz.func160, rfl, by decide⟩
@[go_sem] def s_l6Names_lv : List (List Nat) := [[1, 2], [1, 2, 3], [1, 2, 3, 4], [1, 2, 3, 4, 10], [1, 2, 3, 4], [1, 2, 3, 4], [2]]
@[go_sem] noncomputable def s_l6Names_K : Known := Known.nil
set_option maxHeartbeats 8000000 in
theorem s_l6Names : Sound Tryz.prog 160 ctFrame := by
  have ke := s_l6Names_K.env []
  have kl : Lives s_l6Names_lv := trivial
  refine sound_intro (E := ⟨ti, s_l6Names_K.Γ, []⟩) ke Tryz.func160 Tryz.ntmps160 rfl (rs := [.cell 2 195]) rfl ?_
  intro args os hp
  unfold ctFrame at hp ⊢
  dsimp only at hp ⊢
  split at hp
  · rename_i txg cs es ps dirty zs logn
    refine ⟨by simp, fun φ0 w0 => ?_⟩
    have hlen : cs.length ≤ 4000000 := hp
    refine goh trivial ?_
    refine W_for cs.length (fun i => True) (fun i => ⟨[(1, .one (.ptr 0 0)), (2, .one (.ptr 1 0)), (3, .one (.ptr 2 0)), (4, vi i)], [some (.cells [.val (.int .i64 txg), .isl .cset cs, .isl .ent es, .isl .ptr ps, .val (.bool dirty), .isl .int zs, .val (.int .i64 logn)]), some (.cells [.val (.slice none 0 0)]), some (.cells [.osl .bset 3 0 i]), some (.arr .bset (frameOf (cs.take i)))], []⟩) [some 0, some 1, some 2, none] (leh trivial) trivial fun i hi _ => ?_
    refine goh trivial ?_
    refine W_cnd ?_ ?_ <;> (try simp only [cnd_r]) <;> intro hlt
    · have hk := frame_take (show i < cs.length by omega)
      have hl : (frameOf (cs.take i)).length = i := by rw [frame_len, List.length_take]; omega
      refine goh hl ?_
      exact ⟨[some 0, some 1, some 2, some 5], by omega, leh (And.intro (frame_takes cs i) hk), trivial⟩
    · have e := frame_end (show cs.length ≤ i by omega)
      obtain rfl : i = cs.length := by omega
      refine goh trivial ?_
      exact finh [some 3] (And.intro e ((frame_len cs)))
  · simp [no, ifp] at hp
end Go.Proofs.YtmnbgppmfbnamaaGreatDoor
/- Functions: pointers counted. -/
namespace Go.Proofs.YtmnbgppmfbnamaaGreatDoor
open Go.RowKit

@[go_sem] noncomputable def ctRefs : Ct := ⟨false, [[none, some .cset, some .ent, some .ptr, none, some .int, none]], fun args os => match args, os with
  | [.agg [.val (.int .i64 txg), .isl .cset cs, .isl .ent es, .isl .ptr ps, .val (.bool dirty), .isl .int zs, .val (.int .i64 logn)], .one (.val (.int .i64 a))], [] => ifp (cs.length ≤ 4000000) (vi (rcnt (refsP cs) a))
  | _, _ => no⟩
@[go_sem] def obCo (txg : Int) (cs : List CSet) (es : List Ent) (ps : List Ptr) (dirty : Bool) (zs : List Int) (logn : Int) : Obj := .cells [.val (.int .i64 txg), .isl .cset cs, .isl .ent es, .isl .ptr ps, .val (.bool dirty), .isl .int zs, .val (.int .i64 logn)]
theorem s_l6Refs_e : EnterOk Tryz.prog 217 := ⟨_, Tryz.func217, rfl, by decide⟩
@[go_sem] def s_l6Refs_lv : List (List Nat) := [[1, 2], [1, 2, 5], [1, 2, 5, 6], [1, 2, 5, 6, 12], [1, 2, 5, 6], [1, 2, 5, 6, 7], [1, 2, 5, 6, 7, 16], [1, 2, 5, 6, 7], [1, 2, 5, 6, 7, 33], [1, 2, 5, 6, 7], [4]]
@[go_sem] noncomputable def s_l6Refs_K : Known := Known.nil
set_option maxHeartbeats 8000000 in
theorem s_l6Refs : Sound Tryz.prog 217 ctRefs := by
  have ke := s_l6Refs_K.env []
  have kl : Lives s_l6Refs_lv := trivial
  refine sound_intro (E := ⟨ti, s_l6Refs_K.Γ, []⟩) ke Tryz.func217 Tryz.ntmps217 rfl (rs := [.tmp 4]) rfl ?_
  intro args os hp
  unfold ctRefs at hp ⊢
  dsimp only at hp ⊢
  split at hp
  · rename_i txg cs es ps dirty zs logn a
    refine ⟨by simp, fun φ0 w0 => ?_⟩
    have hlen : cs.length ≤ 4000000 := hp
    refine goh trivial ?_
    refine W_for cs.length (fun i => True) (fun i => ⟨[(1, vi a), (2, .one (.ptr 0 0)), (5, vi (rcnt (refsP (cs.take i)) a)), (6, vi i)], [some (obCo txg cs es ps dirty zs logn)], []⟩) [some 0] (leh (rcnt_nil a)) trivial fun i hi _ => ?_
    refine goh trivial ?_
    refine W_cnd ?_ ?_ <;> (try simp only [cnd_r]) <;> intro hlt
    · refine goh trivial ?_
      have h0 := ptrsTo_zero cs i
      refine W_for 8 (fun j => True) (fun j => ⟨[(1, vi a), (2, .one (.ptr 0 0)), (5, vi (rcnt (ptrsTo cs i j) a)), (6, vi i), (7, vi j)], [some (obCo txg cs es ps dirty zs logn)], []⟩) [some 0] (leh h0) trivial fun j hj _ => ?_
      rcases (show j < 8 ∨ j = 8 by omega) with hi8 | hc8
      · have hn := ptrsTo_next cs i hi8
        have hl := ptrsTo_len cs i j
        have hr2 := rcnt_le (ptrsTo cs i j) a
        have hw := wrap_id (rcnt (ptrsTo cs i j) a + 1) (by omega) (by omega)
        rcases (show j = 0 ∨ j = 1 ∨ j = 2 ∨ j = 3 ∨ j = 4 ∨ j = 5 ∨ j = 6 ∨ j = 7 by omega) with hc8 | hc8 | hc8 | hc8 | hc8 | hc8 | hc8 | hc8
        all_goals
          subst hc8
          refine goh trivial ?_
          refine W_cnd ?_ ?_ <;> intro hlit <;> try (cases hlit; done)
          refine goh trivial ?_
          refine W_cnd ?_ ?_ <;> (try simp only [cnd_r]) <;> intro hx
          · have hr := (congrArg (rcnt · a) hn).trans (rcnt_yes hx)
            simp only [Nat.reduceAdd] at hr
            refine goh hw ?_
            exact ⟨[some 0], by omega, leh hr, trivial⟩
          · have hr := (congrArg (rcnt · a) hn).trans (rcnt_no hx)
            simp only [Nat.reduceAdd] at hr
            refine goh trivial ?_
            exact ⟨[some 0], by omega, leh hr, trivial⟩
      · subst hc8
        have he := ptrsTo_end (show i < cs.length by omega)
        refine goh trivial ?_
        refine W_cnd ?_ ?_ <;> intro hlit <;> try (cases hlit; done)
        refine goh trivial ?_
        exact ⟨[some 0], by omega, leh he, trivial⟩
    · have e := refs_end (show cs.length ≤ i by omega)
      refine goh trivial ?_
      exact finh [] e
  · simp [no, ifp] at hp
@[go_sem] noncomputable def ctCountsS : Ct := ⟨false, [[none, some .cset, some .ent, some .ptr, none, some .int, none]], fun args os => match args, os with
  | [.agg [.val (.int .i64 txg), .isl .cset cs, .isl .ent es, .isl .ptr ps, .val (.bool dirty), .isl .int zs, .val (.int .i64 logn)]], [] => ifp (cs.length ≤ 4000000 ∧ es.length ≤ 48) (vb (countsS (refsP cs) es))
  | _, _ => no⟩
theorem s_l6Counts_e : EnterOk Tryz.prog 161 := ⟨_, Tryz.func161, rfl, by decide⟩
@[go_sem] def s_l6Counts_lv : List (List Nat) := [[1], [1, 3], [1, 3, 4], [1, 3, 4, 11], [1, 3, 4], [1, 3, 4, 28], [2], [1, 3, 4], [1, 3, 5], [1, 3, 5, 41], [1, 3, 5], [1, 3, 5, 6], [1, 3, 5, 6, 45], [1, 3, 5, 6], [1, 3, 5, 6, 57], [1, 3, 5, 6], [2]]
@[go_sem] noncomputable def s_l6Counts_K : Known := (Known.nil).cons 217 ctRefs s_l6Refs s_l6Refs_e
set_option maxHeartbeats 8000000 in
theorem s_l6Counts : Sound Tryz.prog 161 ctCountsS := by
  have ke := s_l6Counts_K.env []
  have kl : Lives s_l6Counts_lv := trivial
  refine sound_intro (E := ⟨ti, s_l6Counts_K.Γ, []⟩) ke Tryz.func161 Tryz.ntmps161 rfl (rs := [.tmp 2]) rfl ?_
  intro args os hp
  unfold ctCountsS at hp ⊢
  dsimp only at hp ⊢
  split at hp
  · rename_i txg cs es ps dirty zs logn
    refine ⟨by simp, fun φ0 w0 => ?_⟩
    obtain ⟨hlen, hes⟩ : cs.length ≤ 4000000 ∧ es.length ≤ 48 := hp
    have hrl := refs_len cs
    refine goh trivial ?_
    refine W_for es.length (fun i => ∀ j, j < i → rcnt (refsP cs) (es.getD j ET.ent.dflt).at_ = (es.getD j ET.ent.dflt).count) (fun i => ⟨[(1, .one (.ptr 0 0)), (3, vi (sumC (es.take i))), (4, vi i)], [some (obCo txg cs es ps dirty zs logn)], []⟩) [some 0] (leh sumC_nil) (by omega) fun i hi hb => ?_
    have hsl := sumC_le (n := 32000000) hi fun j hj => by
      have h1 := hb j hj
      have h2 := rcnt_le (refsP cs) (es.getD j ET.ent.dflt).at_
      omega
    refine goh trivial ?_
    refine W_cnd ?_ ?_ <;> (try simp only [cnd_r]) <;> intro hlt
    · refine goh trivial ?_
      refine W_cnd ?_ ?_ <;> (try simp only [cnd_r]) <;> intro hx
      · have e : countsS (refsP cs) es = false := countsS_false.2 fun h => hx (h.1 i (by omega))
        refine goh trivial ?_
        exact finh [] e
      · have hk := sumC_take (show i < es.length by omega)
        have h2 := rcnt_le (refsP cs) (es.getD i ET.ent.dflt).at_
        have hw := wrap_id (sumC (es.take i) + (es.getD i ET.ent.dflt).count) (by omega) (by omega)
        refine goh hw ?_
        exact ⟨[some 0], by omega, leh hk, fun j hj => by
          rcases Nat.lt_succ_iff_lt_or_eq.1 hj with h | rfl
          · exact hb j h
          · exact hx⟩
    · have hse := sumC_end (show es.length ≤ i by omega)
      rw [hse] at hsl
      have hall : ∀ k, k < es.length → rcnt (refsP cs) (es.getD k ET.ent.dflt).at_ = (es.getD k ET.ent.dflt).count := fun k hk => hb k (by omega)
      refine goh hse ?_
      have hp0 : sumC es - ((posN (refsP []) : Nat) : Int) = sumC es := by rw [refs_nil]; simp [posN]
      refine W_for cs.length (fun i => True) (fun i => ⟨[(1, .one (.ptr 0 0)), (3, vi (sumC es - posN (refsP (cs.take i)))), (5, vi i)], [some (obCo txg cs es ps dirty zs logn)], []⟩) [some 0] (leh hp0) trivial fun i hi _ => ?_
      refine goh trivial ?_
      refine W_cnd ?_ ?_ <;> (try simp only [cnd_r]) <;> intro hlt
      · refine goh trivial ?_
        have h0 := ptrsTo_zero cs i
        refine W_for 8 (fun j => True) (fun j => ⟨[(1, .one (.ptr 0 0)), (3, vi (sumC es - posN (ptrsTo cs i j))), (5, vi i), (6, vi j)], [some (obCo txg cs es ps dirty zs logn)], []⟩) [some 0] (leh h0) trivial fun j hj _ => ?_
        rcases (show j < 8 ∨ j = 8 by omega) with hi8 | hc8
        · have hn := ptrsTo_next cs i hi8
          have hl := ptrsTo_len cs i j
          have hr2 := posN_le (ptrsTo cs i j)
          have hw := wrap_id (sumC es - posN (ptrsTo cs i j) - 1) (by omega) (by omega)
          have ha : ∀ q : Int, q = posN (ptrsTo cs i j) + 1 → sumC es - posN (ptrsTo cs i j) - 1 = sumC es - q := fun q hq => by omega
          rcases (show j = 0 ∨ j = 1 ∨ j = 2 ∨ j = 3 ∨ j = 4 ∨ j = 5 ∨ j = 6 ∨ j = 7 by omega) with hc8 | hc8 | hc8 | hc8 | hc8 | hc8 | hc8 | hc8
          all_goals
            subst hc8
            refine goh trivial ?_
            refine W_cnd ?_ ?_ <;> intro hlit <;> try (cases hlit; done)
            refine goh trivial ?_
            refine W_cnd ?_ ?_ <;> (try simp only [cnd_r]) <;> intro hx
            · have hr := ha _ ((congrArg (fun l => (posN l : Int)) hn).trans (posN_yes hx))
              simp only [Nat.reduceAdd] at hr
              refine goh hw ?_
              exact ⟨[some 0], by omega, leh hr, trivial⟩
            · have hr := (congrArg posN hn).trans (posN_no hx)
              simp only [Nat.reduceAdd] at hr
              refine goh trivial ?_
              exact ⟨[some 0], by omega, leh hr, trivial⟩
        · subst hc8
          have he := ptrsTo_end (show i < cs.length by omega)
          refine goh trivial ?_
          refine W_cnd ?_ ?_ <;> intro hlit <;> try (cases hlit; done)
          refine goh trivial ?_
          exact ⟨[some 0], by omega, leh he, trivial⟩
      · have e := refs_end (show cs.length ≤ i by omega)
        have e2 : countsS (refsP cs) es = (sumC es - posN (refsP cs) == 0) := by
          rw [Bool.eq_iff_iff, countsS_true, beq_iff_eq]
          exact ⟨fun h => by have := h.2; omega, fun h => ⟨hall, by omega⟩⟩
        refine goh e ?_
        exact finh [] e2
  · simp [no, ifp] at hp
@[go_sem] noncomputable def ctSumsS : Ct := ⟨false, [[none, some .cset, some .ent, some .ptr, none, some .int, none]], fun args os => match args, os with
  | [.agg [.val (.int .i64 txg), .isl .cset cs, .isl .ent es, .isl .ptr ps, .val (.bool dirty), .isl .int zs, .val (.int .i64 logn)]], [] => ifp (cs.length ≤ 4000000 ∧ es.length ≤ 4000000) (vb (sumsS (refsP cs) es))
  | _, _ => no⟩
/-- A pointer's sum is the table's. -/
def PtrSum (es : List Ent) (p : Ptr) : Prop := p.at_ > 0 → thereE es p.at_ = true ∧ (es.getD (lowE es p.at_) ET.ent.dflt).sum = p.sum
theorem ptr_in {cs : List CSet} {i j : Nat} (hi : i < cs.length) (hj : j < 8) : (cs.getD i ET.cset.dflt).map.get j ∈ refsP cs := by
  have h1 : (cs.getD i ET.cset.dflt).map.get j ∈ (cs.getD i ET.cset.dflt).map.list := List.mem_of_mem_take (by rw [list_take _ _ hj]; simp)
  unfold refsP
  rw [List.mem_flatMap]
  exact ⟨_, by simp [hi], h1⟩
theorem s_l6Sums_e : EnterOk Tryz.prog 162 := ⟨_, Tryz.func162, rfl, by decide⟩
@[go_sem] def s_l6Sums_lv : List (List Nat) := [[1], [1, 3], [1, 3, 12], [1, 3], [1, 3, 4], [1, 3, 4, 16], [1, 3, 4], [1, 3, 4, 5], [1, 3, 4, 5, 6, 7], [1, 3, 4, 52], [2], [2]]
@[go_sem] noncomputable def s_l6Sums_K : Known := (Known.nil).cons 218 ctAtE s_l5At s_l5At_e
set_option maxHeartbeats 8000000 in
theorem s_l6Sums : Sound Tryz.prog 162 ctSumsS := by
  have ke := s_l6Sums_K.env []
  have kl : Lives s_l6Sums_lv := trivial
  refine sound_intro (E := ⟨ti, s_l6Sums_K.Γ, []⟩) ke Tryz.func162 Tryz.ntmps162 rfl (rs := [.tmp 2]) rfl ?_
  intro args os hp
  unfold ctSumsS at hp ⊢
  dsimp only at hp ⊢
  split at hp
  · rename_i txg cs es ps dirty zs logn
    refine ⟨by simp, fun φ0 w0 => ?_⟩
    obtain ⟨hlen, hes⟩ : cs.length ≤ 4000000 ∧ es.length ≤ 4000000 := hp
    refine goh trivial ?_
    refine W_for cs.length (fun i => ∀ p ∈ refsP (cs.take i), PtrSum es p) (fun i => ⟨[(1, .one (.ptr 0 0)), (3, vi i)], [some (obCo txg cs es ps dirty zs logn)], []⟩) [some 0] (leh trivial) (fun p hp => by cases hp) fun i hi hb => ?_
    refine goh trivial ?_
    refine W_cnd ?_ ?_ <;> (try simp only [cnd_r]) <;> intro hlt
    · refine goh trivial ?_
      refine W_for 8 (fun j => ∀ p ∈ ptrsTo cs i j, PtrSum es p) (fun j => ⟨[(1, .one (.ptr 0 0)), (3, vi i), (4, vi j)], [some (obCo txg cs es ps dirty zs logn)], []⟩) [some 0] (leh trivial) (by rw [ptrsTo_zero]; exact hb) fun j hj hb2 => ?_
      rcases (show j < 8 ∨ j = 8 by omega) with hi8 | hc8
      · have hn := ptrsTo_next cs i hi8
        have hin := ptr_in (show i < cs.length by omega) hi8
        have hnext : PtrSum es ((cs.getD i ET.cset.dflt).map.get j) → ∀ p ∈ ptrsTo cs i (j + 1), PtrSum es p := fun h p hp => by
          rw [hn, List.mem_append, List.mem_singleton] at hp
          rcases hp with hp | rfl
          · exact hb2 p hp
          · exact h
        have hcase : thereE es ((cs.getD i ET.cset.dflt).map.get j).at_ = false ∨ thereE es ((cs.getD i ET.cset.dflt).map.get j).at_ = true ∧ lowE es ((cs.getD i ET.cset.dflt).map.get j).at_ < es.length := by
          cases h : thereE es ((cs.getD i ET.cset.dflt).map.get j).at_ with
          | false => exact .inl rfl
          | true => exact .inr ⟨rfl, (thereE_at h).1⟩
        have hbad : ¬ PtrSum es ((cs.getD i ET.cset.dflt).map.get j) → sumsS (refsP cs) es = false := fun h => sumsS_false.2 fun h2 => h (h2 _ hin)
        rcases (show j = 0 ∨ j = 1 ∨ j = 2 ∨ j = 3 ∨ j = 4 ∨ j = 5 ∨ j = 6 ∨ j = 7 by omega) with hc8 | hc8 | hc8 | hc8 | hc8 | hc8 | hc8 | hc8
        all_goals
          subst hc8
          simp only [Eight.get, Nat.reduceAdd] at hnext hbad hcase
          rcases hcase with ht | ⟨ht, hlow⟩
          · refine goh trivial ?_
            refine W_cnd ?_ ?_ <;> intro hlit <;> try (cases hlit; done)
            refine goh ht ?_
            refine W_cnd ?_ ?_ <;> (try simp only [cnd_r]) <;> intro hx
            · have e := hbad fun h => by have := (h hx).1; rw [ht] at this; cases this
              refine goh trivial ?_
              exact finh [] e
            · refine goh trivial ?_
              exact ⟨[some 0], by omega, leh trivial, hnext fun h => absurd h hx⟩
          · refine goh trivial ?_
            refine W_cnd ?_ ?_ <;> intro hlit <;> try (cases hlit; done)
            refine goh ht ?_
            refine W_cnd ?_ ?_ <;> (try simp only [cnd_r]) <;> intro hx
            · have e := hbad fun h => hx.2 (h hx.1).2
              refine goh trivial ?_
              exact finh [] e
            · refine goh trivial ?_
              exact ⟨[some 0], by omega, leh trivial, hnext fun h => ⟨ht, hx.elim (fun k => absurd h k) id⟩⟩
      · subst hc8
        have he := ptrsTo_end (show i < cs.length by omega)
        refine goh trivial ?_
        refine W_cnd ?_ ?_ <;> intro hlit <;> try (cases hlit; done)
        refine goh trivial ?_
        exact ⟨[some 0], by omega, leh trivial, by rw [← he]; exact hb2⟩
    · have e := refs_end (show cs.length ≤ i by omega)
      have e2 : sumsS (refsP cs) es = true := sumsS_true.2 (by rw [← e]; exact hb)
      refine goh trivial ?_
      exact finh [] e2
  · simp [no, ifp] at hp
end Go.Proofs.YtmnbgppmfbnamaaGreatDoor
