import Derived.Test.YtmnbgppmfbnamaaGreatDoorM5
import Derived.Test.YtmnbgppmfbnamaaGreatDoorM8
import Derived.Test.YtmnbgppmfbnamaaGreatDoorM10
import Derived.Test.YtmnbgppmfbnamaaGreatDoorM11
import Derived.Test.YtmnbgppmfbnamaaGreatDoorM15
import Derived.Test.YtmnbgppmfbnamaaGreatDoorM16
import Derived.Test.YtmnbgppmfbnamaaGreatDoorM17
set_option linter.unusedSimpArgs false
set_option linter.unusedVariables false
set_option linter.unusedSectionVars false
/- Plain facts: a block that is healed. -/
namespace Go.Proofs.YtmnbgppmfbnamaaGreatDoor
open Go.RowKit

theorem heal_stays {d : Dk} (p : Ptr) (h : d.ok = true) : blkRead (blkHeal d p).1 p = blkRead d p ∧ (blkHeal (blkHeal d p).1 p).1 = (blkHeal d p).1 ∧ (∀ s k, k ≠ p.at_ → dkRead (blkHeal d p).1 s k = dkRead d s k) ∧ (blkHeal d p).1.a.length = d.a.length := by
  have same_ : (blkHeal d p).1 = d → blkRead (blkHeal d p).1 p = blkRead d p ∧ (blkHeal (blkHeal d p).1 p).1 = (blkHeal d p).1 ∧ (∀ s k, k ≠ p.at_ → dkRead (blkHeal d p).1 s k = dkRead d s k) ∧ (blkHeal d p).1.a.length = d.a.length := fun e => by
    rw [e]; exact ⟨rfl, e, fun _ _ _ => rfl, rfl⟩
  by_cases c1 : (blkRead d p).2 ≠ 0 ∨ d.has p 0 = d.has p 1
  · exact same_ (by unfold blkHeal; rw [if_pos h, if_pos c1])
  · by_cases c2 : d.may (badSide d p) p.at_ (blkRead d p).1 = true
    · have e : (blkHeal d p).1 = d.add (badSide d p) p.at_ (blkRead d p).1 := by unfold blkHeal; rw [if_pos h, if_neg c1, if_pos c2]
      have hx := Dk.add_ok h c2
      obtain ⟨m1, m2, m3, m4, m5⟩ := (may_iff _ _ _ _).1 c2
      have z0 : (blkRead d p).2 = 0 := by
        by_cases z : (blkRead d p).2 = 0
        · exact z
        · exact absurd (.inl z) c1
      have hne : ¬ d.has p 0 = d.has p 1 := fun z => c1 (.inr z)
      have hr : realB p = true := by
        unfold blkRead at z0
        split at z0
        · simp at z0
        · split at z0
          · rename_i hh; rw [Bool.and_eq_true] at hh; exact hh.2
          · simp at z0
      have s0 : ∀ s, s = 0 ∨ s = 1 → sector d.a.length s p.at_ = true := fun s hs => (sector_iff _ _ _).2 ⟨hs, m2, m3⟩
      obtain ⟨t, b, et, eb, ex, hb1, hsum⟩ : ∃ t b, (blkRead d p).1 = t ∧ badSide d p = b ∧ blkRead d p = (t, 0) ∧ ((b = 1 ∧ d.text 0 p.at_ = t) ∨ (b = 0)) ∧ (sumOf t : Int) = p.sum := by
        cases h0 : d.has p 0 with
        | true =>
          have hf := blk_fine h hr (t := d.text 0 p.at_) (.inl ⟨h0, rfl⟩)
          exact ⟨d.text 0 p.at_, 1, by rw [hf], by unfold badSide; rw [h0]; rfl, hf, .inl ⟨rfl, rfl⟩, ((has_iff _ _ _).1 h0).2⟩
        | false =>
          have h1 : d.has p 1 = true := by
            cases h1 : d.has p 1 with
            | true => rfl
            | false => exact absurd (h0.trans h1.symm) hne
          have hf := blk_fine h hr (t := d.text 1 p.at_) (.inr ⟨h0, h1, rfl⟩)
          exact ⟨d.text 1 p.at_, 0, by rw [hf], by unfold badSide; rw [h0]; rfl, hf, .inr rfl, ((has_iff _ _ _).1 h1).2⟩
      rw [et, eb] at e hx
      have hlen : (d.add b p.at_ t).a.length = d.a.length := rfl
      have htext : ∀ s, s = 0 ∨ s = 1 → (s = 0 ∨ b = s) → (d.add b p.at_ t).text s p.at_ = t := by
        intro s hs hbs
        rw [Dk.add_text]
        rcases hb1 with ⟨rfl, h2⟩ | rfl
        · rcases hbs with rfl | rfl
          · rw [if_neg (fun h => absurd h.1 (by decide)), h2]
          · rw [if_pos ⟨rfl, rfl⟩]
        · rcases hbs with rfl | rfl <;> rw [if_pos ⟨rfl, rfl⟩]
      have t0 := htext 0 (.inl rfl) (.inl rfl)
      have x0 : (d.add b p.at_ t).has p 0 = true := (has_iff _ _ _).2 ⟨by rw [hlen]; exact s0 0 (.inl rfl), by rw [t0]; exact hsum⟩
      have x1 : (d.add b p.at_ t).has p 1 = true := by
        rcases hb1 with ⟨rfl, h2⟩ | rfl
        · have t1 := htext 1 (.inr rfl) (.inr rfl)
          exact (has_iff _ _ _).2 ⟨by rw [hlen]; exact s0 1 (.inr rfl), by rw [t1]; exact hsum⟩
        · have h0 : d.has p 0 = false := by
            unfold badSide at eb
            cases h0 : d.has p 0 with
            | false => rfl
            | true => rw [h0] at eb; simp at eb
          have h1 : d.has p 1 = true := by
            cases h1 : d.has p 1 with
            | true => rfl
            | false => exact absurd (h0.trans h1.symm) hne
          have := (has_iff _ _ _).1 h1
          refine (has_iff _ _ _).2 ⟨by rw [hlen]; exact s0 1 (.inr rfl), ?_⟩
          rw [Dk.add_text, if_neg (fun h => absurd h.1 (by decide))]
          exact this.2
      have rd : blkRead (d.add b p.at_ t) p = (t, 0) := blk_fine hx hr (.inl ⟨x0, t0⟩)
      rw [e]
      refine ⟨rd.trans ex.symm, ?_, fun s k hk => ?_, rfl⟩
      · have : blkHeal (d.add b p.at_ t) p = (d.add b p.at_ t, (blkRead (d.add b p.at_ t) p).2) := by
          conv => lhs; unfold blkHeal
          rw [if_pos hx, if_pos (.inr (x0.trans x1.symm))]
        rw [this]
      · have e1 : (d.add b p.at_ t).text s k = d.text s k := by rw [Dk.add_text, if_neg (fun hh => hk hh.2.symm)]
        unfold dkRead dkReads
        rw [hx, h, hlen, e1]
    · exact same_ (by unfold blkHeal; rw [if_pos h, if_neg c1, if_neg c2])
theorem heal_bad {d : Dk} (p : Ptr) (h : d.ok = false) : blkHeal d p = (.nil, 2) := by unfold blkHeal; rw [h]; rfl
theorem ptr_back (p : Ptr) : ptrReadV (ptrT p) = if ptrOkB p = true then some p else none := by
  by_cases h : ptrOkB p = true
  · rw [if_pos h]; exact ptrRead_some.2 ⟨h, rfl⟩
  · rw [if_neg h]
    refine ptrRead_none fun q h1 h2 => ?_
    have e : ptrT p = ⟨#[]⟩ := by unfold ptrT; rw [if_neg h]
    rw [e] at h2
    unfold ptrT at h2
    rw [if_pos h1] at h2
    split at h2
    · exact absurd h2 (by decide)
    · have h3 := pointsV_split (zs := [q.at_, q.sum, q.birth]) (by simp)
      rw [h2] at h3
      have h4 : splitV 46 ⟨#[]⟩ = [⟨#[]⟩] := by decide
      rw [h4] at h3
      simp at h3
end Go.Proofs.YtmnbgppmfbnamaaGreatDoor
/- Plain facts: texts of commits, and torn ones. -/
namespace Go.Proofs.YtmnbgppmfbnamaaGreatDoor
open Go.RowKit

theorem cut_append (c : UInt8) : ∀ (u v : Bs), ∃ us x y vs, cutL c u = us ++ [x] ∧ cutL c v = y :: vs ∧ cutL c (u ++ v) = us ++ (x ++ y) :: vs
  | [], v => by
    cases h : cutL c v with
    | nil => exact absurd h (cutL_ne c v)
    | cons y vs => exact ⟨[], [], y, vs, rfl, rfl, h⟩
  | b :: u, v => by
    obtain ⟨us, x, y, vs, h1, h2, h3⟩ := cut_append c u v
    by_cases hb : b = c
    · subst hb
      refine ⟨[] :: us, x, y, vs, ?_, h2, ?_⟩
      · rw [cut_hit, h1]; rfl
      · show cutL b (b :: (u ++ v)) = _
        rw [cut_hit, h3]; rfl
    · cases us with
      | nil => exact ⟨[], b :: x, y, vs, cut_miss hb h1, h2, cut_miss hb h3⟩
      | cons w us => exact ⟨(b :: w) :: us, x, y, vs, cut_miss hb h1, h2, cut_miss hb h3⟩
def uberOk (k : Int) (r : Ptr) : Prop := 1 ≤ k ∧ k ≤ 1000000 ∧ realB r = true
instance (k : Int) (r : Ptr) : Decidable (uberOk k r) := inferInstanceAs (Decidable (_ ∧ _ ∧ _))
def uberI (k : Int) (r : Ptr) : ByteArray := decS k ++ ⟨#[32]⟩ ++ ptrT r ++ ⟨#[32]⟩ ++ decS k
/-- A commit's text. -/
noncomputable def uberT (k : Int) (r : Ptr) : ByteArray := if uberOk k r then sealV (uberI k r) else ⟨#[]⟩
theorem ptr_plain {c : UInt8} (h0 : c ≠ 46) (h1 : c.toNat ≠ 45) (h2 : c.toNat < 48 ∨ 57 < c.toNat) (r : Ptr) : c ∉ (ptrT r).data.toList := by
  unfold ptrT
  split
  · split
    · intro h
      have : c = 45 := by simpa using h
      subst this; exact h1 rfl
    · rw [pointsV_three]
      simp only [ByteArray.data_append, Array.toList_append, List.mem_append, not_or]
      have h46 : ¬ c ∈ (⟨#[46]⟩ : ByteArray).data.toList := by simpa using h0
      exact ⟨⟨⟨⟨itoa_not h1 h2 _, h46⟩, itoa_not h1 h2 _⟩, h46⟩, itoa_not h1 h2 _⟩
  · simp
theorem uberI_size {k : Int} {r : Ptr} (h : uberOk k r) : (uberI k r).size ≤ 105 := by
  have h1 := decS_size (n := k) (by have := h.1; omega) (by have := h.2.1; omega)
  have h2 := ptrT_size r
  have h3 : (⟨#[32]⟩ : ByteArray).size = 1 := rfl
  unfold uberI
  simp only [ByteArray.size_append]
  omega
theorem uber_seal {k : Int} {r : Ptr} (h : uberOk k r) : uberT k r = decS (sumOf (uberI k r)) ++ ⟨#[58]⟩ ++ uberI k r := by
  have := uberI_size h
  unfold uberT sealV
  rw [if_pos h, if_neg (by omega)]
theorem uberT_size (k : Int) (r : Ptr) : (uberT k r).size ≤ 126 := by
  by_cases h : uberOk k r
  · rw [uber_seal h]
    have h1 := uberI_size h
    have h2 := sumAt_lt (uberI k r) (uberI k r).size
    have h4 : sumAt (uberI k r) (uberI k r).size = sumOf (uberI k r) := rfl
    have h3 := decS_size (n := sumOf (uberI k r)) (by omega) (by omega)
    have h5 : (⟨#[58]⟩ : ByteArray).size = 1 := rfl
    simp only [ByteArray.size_append]
    omega
  · unfold uberT; rw [if_neg h]; exact Nat.zero_le _
/-- The first word of a commit's text. -/
def uberF (k : Int) (r : Ptr) : Bs := (decS (sumOf (uberI k r))).data.toList ++ 58 :: (decS k).data.toList
theorem uberI_words (k : Int) (r : Ptr) : cutL 32 (uberI k r).data.toList = [(decS k).data.toList, (ptrT r).data.toList, (decS k).data.toList] := by
  have e : (uberI k r).data.toList = (decS k).data.toList ++ 32 :: ((ptrT r).data.toList ++ 32 :: (decS k).data.toList) := by
    unfold uberI
    simp [ByteArray.data_append]
  rw [e, cut_app _ _ _ (no_blank k), cut_app _ _ _ (ptr_plain (by decide) (by decide) (by decide) r), cut_none _ _ (no_blank k)]
theorem uber_words {k : Int} {r : Ptr} (h : uberOk k r) : cutL 32 (uberT k r).data.toList = [uberF k r, (ptrT r).data.toList, (decS k).data.toList] := by
  have e : (uberT k r).data.toList = uberF k r ++ 32 :: ((ptrT r).data.toList ++ 32 :: (decS k).data.toList) := by
    rw [uber_seal h]
    unfold uberF uberI
    simp [ByteArray.data_append]
  have hF : (32 : UInt8) ∉ uberF k r := by
    unfold uberF
    rw [List.mem_append, List.mem_cons]
    rintro (h | h | h)
    · exact no_blank _ h
    · exact absurd h (by decide)
    · exact no_blank _ h
  rw [e, cut_app _ _ _ hF, cut_app _ _ _ (ptr_plain (by decide) (by decide) (by decide) r), cut_none _ _ (no_blank k)]
theorem data_inj {a b : ByteArray} (h : a.data.toList = b.data.toList) : a = b := by
  rw [← bytesL_data a, h, bytesL_data]
theorem uberF_inj {k n : Int} {r p : Ptr} (h : uberF k r = uberF n p) : k = n := by
  have e : ∀ (k : Int) (r : Ptr), cutL 58 (uberF k r) = [(decS (sumOf (uberI k r))).data.toList, (decS k).data.toList] := fun k r => by
    unfold uberF
    rw [cut_app _ _ _ (no_colon _), cut_none _ _ (no_colon k)]
  have h1 := e k r
  rw [h, e n p] at h1
  simp only [List.cons.injEq, and_true] at h1
  exact (decS_inj (data_inj h1.2)).symm
/-- A torn text of a commit is never mistaken: what is read is one of the two. -/
theorem torn_uber {k n m : Int} {r p q : Ptr} (hk : uberOk k r) (hn : uberOk n p) (hm : uberOk m q ∨ uberT m q = ⟨#[]⟩) (hnm : n ≠ m) (i : Nat) {z : Bs} (hz : z = (uberT m q).data.toList.drop i ∨ z = [])
    (h : (uberT k r).data.toList = (uberT n p).data.toList.take i ++ z) : (k = n ∧ r = p) ∨ (k = m ∧ r = q) := by
  have hr : ∀ {r p : Ptr} (k n : Int), uberOk k r → uberOk n p → (ptrT r).data.toList = (ptrT p).data.toList → r = p := fun k n h1 h2 h3 =>
    ptrT_inj (ptrOk_real h1.2.2).1 (ptrOk_real h2.2.2).1 (data_inj h3)
  have w1 := uber_words hk
  have w2 := uber_words hn
  obtain ⟨us, x, y, vs, a1, a2, a3⟩ := cut_append 32 ((uberT n p).data.toList.take i) z
  obtain ⟨us', x', y', vs', b1, b2, b3⟩ := cut_append 32 ((uberT n p).data.toList.take i) ((uberT n p).data.toList.drop i)
  rw [List.take_append_drop] at b3
  rw [h, a3] at w1
  rw [b3] at w2
  obtain ⟨rfl, hxx⟩ := List.append_inj' (a1.symm.trans b1) rfl
  have hxx : x = x' := by simpa using hxx
  subst hxx
  -- what stands behind: words of the old text's end
  have hv : (vs = [] ∨ vs = [(decS m).data.toList] ∧ uberOk m q) ∨ (vs = [(ptrT q).data.toList, (decS m).data.toList] ∧ uberOk m q) := by
    rcases hz with hz | hz
    · rcases hm with hm | hm
      · have w3 := uber_words hm
        obtain ⟨us3, x3, y3, vs3, c1, c2, c3⟩ := cut_append 32 ((uberT m q).data.toList.take i) ((uberT m q).data.toList.drop i)
        rw [List.take_append_drop, w3] at c3
        rw [← hz, a2] at c2
        obtain ⟨rfl, rfl⟩ := List.cons.inj c2
        match us3, c3 with
        | [], c3 => simp at c3; exact .inr ⟨c3.2.symm, hm⟩
        | [_], c3 => simp at c3; exact .inl (.inr ⟨c3.2.2.symm, hm⟩)
        | [_, _], c3 => simp at c3; exact .inl (.inl c3.2.2.2)
        | _ :: _ :: _ :: _, c3 => simp at c3
      · rw [hm] at hz
        have : z = [] := by rw [hz]; simp
        rw [this] at a2
        simp [cutL] at a2
        exact .inl (.inl a2.2)
    · rw [hz] at a2
      simp [cutL] at a2
      exact .inl (.inl a2.2)
  match us, w1, w2 with
  | [], w1, w2 =>
    simp only [List.nil_append, List.cons.injEq] at w1
    rcases hv with (hv | ⟨hv, hq⟩) | ⟨hv, hq⟩
    · rw [hv] at w1; simp at w1
    · rw [hv] at w1; simp at w1
    · rw [hv] at w1
      simp only [List.cons.injEq, and_true] at w1
      right
      have hkm := decS_inj (data_inj w1.2.2)
      exact ⟨hkm.symm, (hr m k hq hk w1.2.1).symm⟩
  | [F], w1, w2 =>
    simp only [List.cons_append, List.nil_append, List.cons.injEq] at w1 w2
    have hkn := uberF_inj (w1.1.symm.trans w2.1)
    rcases hv with (hv | ⟨hv, hq⟩) | ⟨hv, hq⟩
    · rw [hv] at w1; simp at w1
    · rw [hv] at w1
      simp only [List.cons.injEq, and_true] at w1
      have hkm := decS_inj (data_inj w1.2.2)
      exact absurd (hkn.symm.trans hkm.symm) hnm
    · rw [hv] at w1; simp at w1
  | [F, P], w1, w2 =>
    simp only [List.cons_append, List.nil_append, List.cons.injEq] at w1 w2
    left
    exact ⟨uberF_inj (w1.1.symm.trans w2.1), hr k n hk hn (w1.2.1.symm.trans w2.2.1)⟩
  | _ :: _ :: _ :: _, w1, w2 => simp at w1
/-- A commit that is read. -/
noncomputable def uberP (t : ByteArray) : Option (Int × Ptr) := match splitV 32 (openV t).1 with
  | [x, y, z] => (match atoiV x, ptrReadV y with
    | some k, some r => if uberT k r = t then some (k, r) else none
    | _, _ => none)
  | _ => none
theorem open_uber {k : Int} {r : Ptr} (h : uberOk k r) : openV (uberT k r) = (uberI k r, true) := by
  have e : (uberT k r).data.toList = (decS (sumOf (uberI k r))).data.toList ++ 58 :: (uberI k r).data.toList := by
    rw [uber_seal h]; simp [ByteArray.data_append]
  have hc := cutV_at e (no_colon _)
  have hs : sealV (uberI k r) = uberT k r := by unfold uberT; rw [if_pos h]
  unfold openV
  rw [hc]
  simp only [bytesL_data]
  rw [hs, if_pos ⟨trivial, same_true.2 rfl⟩]
theorem splitV_nil (c : UInt8) : splitV c ⟨#[]⟩ = [⟨#[]⟩] := rfl
theorem open_nil : openV ⟨#[]⟩ = (⟨#[]⟩, false) := by
  unfold openV
  rw [cutV_not (by simp), if_neg (by rintro ⟨h, -⟩; cases h)]
theorem uberP_iff {t : ByteArray} {k : Int} {r : Ptr} : uberP t = some (k, r) ↔ uberOk k r ∧ uberT k r = t := by
  constructor
  · intro h
    unfold uberP at h
    split at h
    · rename_i x y z hw
      split at h
      · rename_i k' r' hk hr
        split at h
        · rename_i ht
          cases h
          refine ⟨?_, ht⟩
          by_cases hok : uberOk k r
          · exact hok
          · exfalso
            have : t = ⟨#[]⟩ := by rw [← ht]; unfold uberT; rw [if_neg hok]
            rw [this, open_nil, splitV_nil] at hw
            simp at hw
        · cases h
      · cases h
    · cases h
  · rintro ⟨h, rfl⟩
    unfold uberP
    rw [open_uber h]
    have hw : splitV 32 (uberI k r) = [decS k, ptrT r, decS k] := by
      unfold splitV
      rw [uberI_words]
      simp only [List.map_cons, List.map_nil, bytesL_data]
    rw [hw]
    simp only
    rw [(atoi_dec (n := k) (by have := h.1; omega) (by have := h.2.1; omega)).1, ptr_back, if_pos (ptrOk_real h.2.2).1]
    simp only
    rw [if_pos trivial]
end Go.Proofs.YtmnbgppmfbnamaaGreatDoor
/- Plain facts: the first commit of a new disk. -/
namespace Go.Proofs.YtmnbgppmfbnamaaGreatDoor
open Go.RowKit

theorem core0_ok {u : Int} (h0 : 0 ≤ u) (h1 : u ≤ 8) : (Co.mk 0 [] [] [] false [] u).ok = true :=
  Co.ok_true.2 ⟨⟨by simp, by simp⟩, ⟨by simp, fun i hi => by simp at hi⟩, ⟨by simp, rfl⟩, ⟨h0, h1⟩, fun i hi => by simp at hi, rfl,
    bookB_true.2 ⟨by simp [frameOf], fun i hi => by simp [frameOf] at hi, rfl⟩, ⟨⟨fun p hp => by cases hp⟩, fun k hk => by cases hk⟩⟩
theorem core_fit0 (x u : Int) : (Co.mk x [] [] [] false [] u).fit := ⟨⟨by simp, by simp, by simp, by simp⟩, fun i => by simp [ET.dflt]; exact ⟨Nat.zero_le _, Nat.zero_le _⟩⟩
theorem root_none : rootT [] [] = root0 := rfl
theorem room_none {u : Int} (h0 : 0 ≤ u) (h1 : u ≤ 8) : roomR ⟨0, [], [], [], false, [], u⟩ 13 = [13] := by
  unfold roomR
  rw [if_pos (core0_ok h0 h1)]
  simp [reachV, reachL, addP, insP]
theorem reach_none (u : Int) : reachV ⟨1, [], [], [], false, [], u⟩ 13 = [13] := by simp [reachV, reachL, addP, insP]
theorem roomZ_none {u : Int} (h0 : 0 ≤ u) (h1 : u ≤ 8) : roomZ ⟨0, [], [], [], false, [], u⟩ 13 = 0 := by
  unfold roomZ
  rw [if_pos (core0_ok h0 h1)]
  simp [reachV, reachL, addP, insP]
def root1 : Ptr := blkTo 13 root0 1
theorem root1_eq : root1 = ⟨13, (sumOf root0 : Nat), 1⟩ := by
  have := sumOf_lt root0
  unfold root1 blkTo
  rw [if_pos]
  simp [realB, ptrOkB]
  omega
def com1 (a b : List ByteArray) : Dk := ⟨a, b, [⟨0, 13, root0⟩, ⟨1, 13, root0⟩]⟩
noncomputable def com2 (a b : List ByteArray) : Dk := ⟨(com1 a b).flushed.a, (com1 a b).flushed.b, [⟨0, 2, uberT 1 root1⟩, ⟨1, 2, uberT 1 root1⟩]⟩
noncomputable def comD (a b : List ByteArray) : Dk := (com2 a b).flushed
theorem root0_size : root0.size = 4 := rfl
theorem Dk.flushed_ok {d : Dk} (h : d.ok = true) : d.flushed.ok = true := by
  have := dkFlush_ok h
  unfold dkFlush at this
  rwa [if_pos h] at this
theorem add2_ok {a b : List ByteArray} (h : (Dk.mk a b []).ok = true) {k : Int} {t : ByteArray} (h0 : 0 ≤ k) (h1 : k < a.length) (ht : t.size ≤ 420) :
    (Dk.mk a b []).may2 k t = true ∧ (Dk.mk a b [⟨0, k, t⟩, ⟨1, k, t⟩]).ok = true := by
  have m0 : (Dk.mk a b []).may 0 k t = true := (may_iff _ _ _ _).2 ⟨.inl rfl, h0, h1, ht, by simp⟩
  have o1 := Dk.add_ok h m0
  have m1 : ((Dk.mk a b []).add 0 k t).may 1 k t = true := (may_iff _ _ _ _).2 ⟨.inr rfl, h0, h1, ht, by show 0 + 1 < 600; omega⟩
  refine ⟨?_, Dk.add_ok o1 m1⟩
  unfold Dk.may2
  rw [m0]; rfl
theorem com_facts {a b : List ByteArray} (h : (Dk.mk a b []).ok = true) (hn : 13 < a.length) :
    (Dk.mk a b []).may2 13 root0 = true ∧ (com1 a b).ok = true ∧ (Dk.mk (com1 a b).flushed.a (com1 a b).flushed.b []).ok = true ∧ ((com1 a b).flushed.a.length = a.length ∧ (com1 a b).flushed.b.length = b.length) ∧
      (Dk.mk (com1 a b).flushed.a (com1 a b).flushed.b []).may2 2 (uberT 1 root1) = true ∧ (com2 a b).ok = true ∧ ((comD a b).a.length = a.length ∧ (comD a b).b.length = b.length) ∧ (comD a b).l = [] := by
  obtain ⟨m1, o1⟩ := add2_ok h (k := 13) (t := root0) (by decide) (by omega) (by rw [root0_size]; decide)
  have o2 : (Dk.mk (com1 a b).flushed.a (com1 a b).flushed.b []).ok = true := Dk.flushed_ok o1
  have l2 := (com1 a b).done_len (com1 a b).l.length
  have hz := uberT_size 1 root1
  obtain ⟨m3, o3⟩ := add2_ok o2 (k := 2) (t := uberT 1 root1) (by decide) (by
    have : (com1 a b).flushed.a.length = a.length := l2.1
    omega) (by omega)
  have l4 := (com2 a b).done_len (com2 a b).l.length
  exact ⟨m1, o1, o2, l2, m3, o3, ⟨l4.1.trans l2.1, l4.2.trans l2.2⟩, rfl⟩
end Go.Proofs.YtmnbgppmfbnamaaGreatDoor
/- Functions: what the reader of codes draws. -/
namespace Go.Proofs.YtmnbgppmfbnamaaGreatDoor
open Go.RowKit

/-- The reader's object: bytes, place. -/
@[go_sem] def rdO (bs : List UInt8) (p : Int) : Obj := .cells [.isl .byte bs, .val (.int .i64 p)]
@[go_sem] def ctOpen : Ct := ⟨true, [[some .byte]], fun args os => match args, os with
  | [.one (.isl .byte bs)], [] => ⟨bs.length ≤ 1048576, .one (.ptr 0 0), [], [rdO (bs.take 2000) 0]⟩
  | _, _ => no⟩
theorem s_open_e : EnterOk Tryz.prog 45 := ⟨_, Tryz.func45, rfl, by decide⟩
@[go_sem] def s_open_lv : List (List Nat) := [[0], [0, 5], [0], [2]]
@[go_sem] noncomputable def s_open_K : Known := Known.nil
set_option maxHeartbeats 8000000 in
theorem s_open : Sound Tryz.prog 45 ctOpen := by
  have ke := s_open_K.env []
  have kl : Lives s_open_lv := trivial
  refine sound_intro (E := ⟨ti, s_open_K.Γ, []⟩) ke Tryz.func45 Tryz.ntmps45 rfl (rs := [.tmp 2]) rfl ?_
  intro args os hp
  unfold ctOpen at hp ⊢
  dsimp only at hp ⊢
  split at hp
  · rename_i bs
    refine ⟨by simp, fun φ0 w0 => ?_⟩
    have hlen : bs.length ≤ 1048576 := hp
    clear hp
    refine goh trivial ?_
    refine W_cnd ?_ ?_ <;> (try simp only [cnd_r]) <;> intro hc
    · refine goh trivial ?_
      exact finh [some 0] trivial
    · refine goh trivial ?_
      have ht : bs.take 2000 = bs := List.take_of_length_le (by omega)
      rw [ht]
      exact finh [some 0] trivial
  · simp [no] at hp

def byteAt (bs : List UInt8) (i : Int) : Int := ((bs.getD i.toNat 0).toNat : Int)
def byteW (bs : List UInt8) (i : Int) : Int := IntKind.i64.wrap ((UInt8.toNat (bs.getD i.toNat ET.byte.dflt) : Nat) : Int)
/-- What is drawn behind the code's end. -/
def mixS (bs : List UInt8) (k : Int) : Int := IntKind.i64.wrap (IntKind.i64.wrap (IntKind.i64.wrap (IntKind.i64.wrap (byteW bs (k.tmod bs.length) * 131) + IntKind.i64.wrap (byteW bs ((IntKind.i64.wrap (IntKind.i64.wrap (k * 7) + 3)).tmod bs.length) * 1117)) + IntKind.i64.wrap (k * 29)) + IntKind.i64.wrap (IntKind.i64.wrap (k.tdiv bs.length) * 53))
def mixV (bs : List UInt8) (k : Int) : Int := IntKind.i64.wrap (((BitVec.ofInt 64 (mixS bs k) ^^^ BitVec.ofInt 64 (IntKind.i64.wrap ((mixS bs k).tdiv 64))).toNat : Nat) : Int)
theorem byteW_eq (bs : List UInt8) (i : Int) : byteW bs i = byteAt bs i ∧ 0 ≤ byteAt bs i ∧ byteAt bs i < 256 := by
  have hb : (UInt8.toNat (bs.getD i.toNat (0 : UInt8))) < 256 := UInt8.toNat_lt _
  have e : byteW bs i = IntKind.i64.wrap (byteAt bs i) := rfl
  unfold byteAt at e ⊢
  rw [e, wrap_id _ (by omega) (by omega)]
  omega
theorem tmod_in (k : Int) (n : Nat) (hk : 0 ≤ k) (hn : n ≠ 0) : 0 ≤ k.tmod n ∧ k.tmod n < n := ⟨Int.tmod_nonneg _ hk, Int.tmod_lt_of_pos _ (show (0 : Int) < n by omega)⟩
theorem tdiv_in (k : Int) (n : Int) (hk : 0 ≤ k) (hn : 0 < n) : 0 ≤ k.tdiv n ∧ k.tdiv n ≤ k := ⟨Int.tdiv_nonneg hk (by omega), by
  rw [Int.tdiv_eq_ediv_of_nonneg hk]; exact Int.ediv_le_self n hk⟩
theorem mixS_in (bs : List UInt8) (k : Int) (h1 : 0 ≤ k) (h2 : k ≤ 1000000) (hb : bs.length ≠ 0) : 0 ≤ mixS bs k ∧ mixS bs k ≤ 1000000000 := by
  obtain ⟨a1, a2, a3⟩ := byteW_eq bs (k.tmod bs.length)
  obtain ⟨b1, b2, b3⟩ := byteW_eq bs ((IntKind.i64.wrap (IntKind.i64.wrap (k * 7) + 3)).tmod bs.length)
  obtain ⟨c1, c2⟩ := tdiv_in k bs.length h1 (by omega)
  unfold mixS
  rw [a1, b1]
  generalize byteAt bs (k.tmod bs.length) = x at *
  generalize byteAt bs ((IntKind.i64.wrap (IntKind.i64.wrap (k * 7) + 3)).tmod bs.length) = y at *
  generalize k.tdiv bs.length = z at *
  rw [wrap_id (x * 131) (by omega) (by omega), wrap_id (y * 1117) (by omega) (by omega), wrap_id (k * 29) (by omega) (by omega), wrap_id z (by omega) (by omega), wrap_id (z * 53) (by omega) (by omega),
    wrap_id (x * 131 + y * 1117) (by omega) (by omega), wrap_id (x * 131 + y * 1117 + k * 29) (by omega) (by omega), wrap_id (x * 131 + y * 1117 + k * 29 + z * 53) (by omega) (by omega)]
  omega
theorem xor_in (a b : Int) (ha : 0 ≤ a) (hb : 0 ≤ b) (ha' : a < 4611686018427387904) (hb' : b < 4611686018427387904) : 0 ≤ IntKind.i64.wrap (((BitVec.ofInt 64 a ^^^ BitVec.ofInt 64 b).toNat : Nat) : Int) := by
  obtain ⟨a, rfl⟩ := Int.eq_ofNat_of_zero_le ha
  obtain ⟨b, rfl⟩ := Int.eq_ofNat_of_zero_le hb
  have h : (BitVec.ofInt 64 (a : Int) ^^^ BitVec.ofInt 64 (b : Int)).toNat < 2 ^ 62 := by
    rw [BitVec.toNat_xor, BitVec.toNat_ofInt, BitVec.toNat_ofInt]
    refine Nat.xor_lt_two_pow ?_ ?_ <;> omega
  generalize (BitVec.ofInt 64 (a : Int) ^^^ BitVec.ofInt 64 (b : Int)).toNat = x at *
  rw [wrap_id _ (by omega) (by omega)]
  omega
theorem mixV_in (bs : List UInt8) (k : Int) (h1 : 0 ≤ k) (h2 : k ≤ 1000000) (hb : bs.length ≠ 0) : 0 ≤ mixV bs k := by
  obtain ⟨a, b⟩ := mixS_in bs k h1 h2 hb
  obtain ⟨c, d⟩ := tdiv_in (mixS bs k) 64 a (by omega)
  unfold mixV
  refine xor_in _ _ a ?_ (by omega) ?_ <;> rw [wrap_id _ (by omega) (by omega)] <;> omega
/-- The number that is picked. -/
def pickV (bs : List UInt8) (p n : Int) : Int := if n < 1 ∨ bs.length = 0 then 0 else if p < bs.length then (byteAt bs p).tmod n else (mixV bs p).tmod n
@[go_sem] def ctPick : Ct := ⟨true, [], fun args os => match args, os with
  | [.one (.ptr 0 0), .one (.val (.int .i64 n))], [.cells [.isl .byte bs, .val (.int .i64 p)]] => ⟨0 ≤ p ∧ p ≤ 1000000 ∧ bs.length ≤ 2000, vi (pickV bs p n), [(0, some (rdO bs (p + 1)))], []⟩
  | _, _ => no⟩
theorem s_pick_e : EnterOk Tryz.prog 117 := ⟨_, Tryz.func117, rfl, by decide⟩
@[go_sem] def s_pick_lv : List (List Nat) := [[0, 1], [0, 1], [0, 1, 24], [4], [0, 1, 5], [0, 1, 5, 36], [4], [1, 6], [1, 6], [4]]
@[go_sem] noncomputable def s_pick_K : Known := Known.nil
set_option maxHeartbeats 8000000 in
theorem s_pick : Sound Tryz.prog 117 ctPick := by
  have ke := s_pick_K.env []
  have kl : Lives s_pick_lv := trivial
  refine sound_intro (E := ⟨ti, s_pick_K.Γ, []⟩) ke Tryz.func117 Tryz.ntmps117 rfl (rs := [.tmp 4]) rfl ?_
  intro args os hp
  unfold ctPick at hp ⊢
  dsimp only at hp ⊢
  split at hp
  · rename_i n bs p
    refine ⟨by simp, fun φ0 w0 => ?_⟩
    obtain ⟨h1, h2, h3⟩ : 0 ≤ p ∧ p ≤ 1000000 ∧ bs.length ≤ 2000 := hp
    have hw1 : IntKind.i64.wrap (p + 1) = p + 1 := wrap_id _ (by omega) (by omega)
    have hw2 : IntKind.i64.wrap (p + 1 - 1) = p := by rw [wrap_id _ (by omega) (by omega)]; omega
    refine goh (And.intro hw1 hw2) ?_
    refine W_cond _ (by exact rfl) (by exact trivial) ?_ ?_ <;> intro hc
    · have hc' : n < 1 ∨ bs.length = 0 := by
        by_cases hn : n < 1
        · exact .inl hn
        · rw [if_neg hn] at hc; simp at hc; exact .inr (by simp [hc])
      refine goh trivial ?_
      refine ⟨by (simp only [go_sem, ↓reduceIte, reduceCtorEq, Nat.reduceAdd, Nat.reduceLT, Nat.reduceLeDiff, Nat.reduceEqDiff]) <;> trivial, [some 0], ?_⟩
      all_goals try simp only [go_sem, inj_r, ↓reduceIte, reduceCtorEq, Nat.reduceAdd, Nat.reduceLT, Nat.reduceLeDiff, Nat.reduceEqDiff, Int.reduceEq]
      all_goals (repeat' refine And.intro ?_ ?_) <;> try exact shut7
      unfold pickV
      rw [if_pos hc']
    · have hn : ¬ n < 1 := by intro hn; rw [if_pos hn] at hc; cases hc
      have hl : bs.length ≠ 0 := by rw [if_neg hn] at hc; simp at hc; intro h; exact hc (List.length_eq_zero_iff.1 h)
      have hpv : pickV bs p n = if p < bs.length then (byteAt bs p).tmod n else (mixV bs p).tmod n := by
        unfold pickV
        rw [if_neg (by rintro (h | h); exact hn h; exact hl h)]
      clear hc
      refine goh hw2 ?_
      refine W_cnd ?_ ?_ <;> (try simp only [cnd_r]) <;> intro hlt
      · refine goh trivial ?_
        refine ⟨by (simp only [go_sem, ↓reduceIte, reduceCtorEq, Nat.reduceAdd, Nat.reduceLT, Nat.reduceLeDiff, Nat.reduceEqDiff]) <;> trivial, [some 0], ?_⟩
        all_goals try simp only [go_sem, inj_r, ↓reduceIte, reduceCtorEq, Nat.reduceAdd, Nat.reduceLT, Nat.reduceLeDiff, Nat.reduceEqDiff, Int.reduceEq]
        all_goals (repeat' refine And.intro ?_ ?_) <;> try exact shut7
        rw [hpv, if_pos hlt, ← (byteW_eq bs p).1]
        rfl
      · have h7 : IntKind.i64.wrap (IntKind.i64.wrap (p * 7) + 3) = p * 7 + 3 := by rw [wrap_id (p * 7) (by omega) (by omega), wrap_id _ (by omega) (by omega)]
        have t1 := tmod_in p bs.length h1 hl
        have t2 := tmod_in (p * 7 + 3) bs.length (by omega) hl
        refine goh h7 ?_
        refine ⟨by (simp only [go_sem, ↓reduceIte, reduceCtorEq, Nat.reduceAdd, Nat.reduceLT, Nat.reduceLeDiff, Nat.reduceEqDiff]) <;> trivial, [some 0], ?_⟩
        all_goals try simp only [go_sem, inj_r, ↓reduceIte, reduceCtorEq, Nat.reduceAdd, Nat.reduceLT, Nat.reduceLeDiff, Nat.reduceEqDiff, Int.reduceEq]
        all_goals (repeat' refine And.intro ?_ ?_) <;> try exact shut7
        rw [hpv, if_neg hlt, mixV, mixS, h7]
        rfl
  · simp [no] at hp
theorem pickV_in (bs : List UInt8) (p n : Int) (h1 : 0 ≤ p) (h2 : p ≤ 1000000) (hn : 1 ≤ n) : 0 ≤ pickV bs p n ∧ pickV bs p n < n := by
  unfold pickV
  split
  · omega
  · rename_i h
    have hb : bs.length ≠ 0 := fun e => h (.inr e)
    split
    · exact ⟨Int.tmod_nonneg _ (byteW_eq bs p).2.1, Int.tmod_lt_of_pos _ (by omega)⟩
    · exact ⟨Int.tmod_nonneg _ (mixV_in bs p h1 h2 hb), Int.tmod_lt_of_pos _ (by omega)⟩
end Go.Proofs.YtmnbgppmfbnamaaGreatDoor
/- Functions: one of a list; texts that are drawn. -/
namespace Go.Proofs.YtmnbgppmfbnamaaGreatDoor
open Go.RowKit

/-- May the reader go on from here? -/
def rdOk (bs : List UInt8) (p : Int) : Prop := 0 ≤ p ∧ p ≤ 900000 ∧ bs.length ≤ 2000
@[go_sem] def ctNum : Ct := ⟨true, [], fun args os => match args, os with
  | [.one (.ptr 0 0), .one (.osl .int 1 0 n)], [.cells [.isl .byte bs, .val (.int .i64 p)], .arr .int xs] => ⟨(0 ≤ p ∧ p ≤ 1000000 ∧ bs.length ≤ 2000) ∧ n = xs.length ∧ 0 < n ∧ n ≤ 1000, vi (ET.int.at xs (pickV bs p n).toNat), [(0, some (rdO bs (p + 1)))], []⟩
  | _, _ => no⟩
theorem s_num_e : EnterOk Tryz.prog 120 := ⟨_, Tryz.func120, rfl, by decide⟩
@[go_sem] def s_num_lv : List (List Nat) := [[0, 1], [4]]
@[go_sem] noncomputable def s_num_K : Known := (Known.nil).cons 117 ctPick s_pick s_pick_e
set_option maxHeartbeats 8000000 in
theorem s_num : Sound Tryz.prog 120 ctNum := by
  have ke := s_num_K.env []
  have kl : Lives s_num_lv := trivial
  refine sound_intro (E := ⟨ti, s_num_K.Γ, []⟩) ke Tryz.func120 Tryz.ntmps120 rfl (rs := [.tmp 4]) rfl ?_
  intro args os hp
  unfold ctNum at hp ⊢
  dsimp only at hp ⊢
  split at hp
  · rename_i n bs p xs
    refine ⟨by simp, fun φ0 w0 => ?_⟩
    obtain ⟨⟨h1, h2, h3⟩, h4, h5, h6⟩ : (0 ≤ p ∧ p ≤ 1000000 ∧ bs.length ≤ 2000) ∧ n = xs.length ∧ 0 < n ∧ n ≤ 1000 := hp
    have h7 := pickV_in bs p n h1 h2 (by omega)
    refine goh trivial ?_
    exact finh [some 0, some 1] trivial
  · simp [no] at hp
@[go_sem] def ctOf : Ct := ⟨true, [], fun args os => match args, os with
  | [.one (.ptr 0 0), .one (.osl .str 1 0 n)], [.cells [.isl .byte bs, .val (.int .i64 p)], .arr .str xs] => ⟨(0 ≤ p ∧ p ≤ 1000000 ∧ bs.length ≤ 2000) ∧ n = xs.length ∧ 0 < n ∧ n ≤ 1000, vs (ET.str.at xs (pickV bs p n).toNat), [(0, some (rdO bs (p + 1)))], []⟩
  | _, _ => no⟩
theorem s_of_e : EnterOk Tryz.prog 121 := ⟨_, Tryz.func121, rfl, by decide⟩
@[go_sem] def s_of_lv : List (List Nat) := [[0, 1], [4]]
@[go_sem] noncomputable def s_of_K : Known := (Known.nil).cons 117 ctPick s_pick s_pick_e
set_option maxHeartbeats 8000000 in
theorem s_of : Sound Tryz.prog 121 ctOf := by
  have ke := s_of_K.env []
  have kl : Lives s_of_lv := trivial
  refine sound_intro (E := ⟨ti, s_of_K.Γ, []⟩) ke Tryz.func121 Tryz.ntmps121 rfl (rs := [.tmp 4]) rfl ?_
  intro args os hp
  unfold ctOf at hp ⊢
  dsimp only at hp ⊢
  split at hp
  · rename_i n bs p xs
    refine ⟨by simp, fun φ0 w0 => ?_⟩
    obtain ⟨⟨h1, h2, h3⟩, h4, h5, h6⟩ : (0 ≤ p ∧ p ≤ 1000000 ∧ bs.length ≤ 2000) ∧ n = xs.length ∧ 0 < n ∧ n ≤ 1000 := hp
    have h7 := pickV_in bs p n h1 h2 (by omega)
    refine goh trivial ?_
    exact finh [some 0, some 1] trivial
  · simp [no] at hp
def txts : List ByteArray := [⟨#[97]⟩, ⟨#[98]⟩, ⟨#[32]⟩, ⟨#[58]⟩, ⟨#[10]⟩, ⟨#[49, 50]⟩, ⟨#[255]⟩, ⟨#[0]⟩, ⟨#[120, 121, 122]⟩]
theorem at_size {xs : List ByteArray} {m : Nat} (h : ∀ s ∈ xs, s.size ≤ m) (i : Nat) : (ET.str.at xs i).size ≤ m := by
  unfold ET.at
  rcases Nat.lt_or_ge i xs.length with hi | hi
  · rw [List.getD_eq_getElem?_getD, List.getElem?_eq_getElem hi]; exact h _ (List.getElem_mem hi)
  · rw [List.getD_eq_getElem?_getD, List.getElem?_eq_none hi]; exact Nat.zero_le _
theorem txts_size (i : Nat) : (ET.str.at txts i).size ≤ 3 := at_size (by decide) i
def l1T (bs : List UInt8) : Nat → Int → ByteArray → ByteArray
  | 0, _, out => out
  | i + 1, p, out => l1T bs i (p + 1) (out ++ ET.str.at txts (pickV bs p 9).toNat)
theorem l1T_size (bs : List UInt8) : ∀ (i : Nat) (p : Int) (out : ByteArray), (l1T bs i p out).size ≤ out.size + 3 * i
  | 0, p, out => by simp [l1T]
  | i + 1, p, out => by
    have h1 := l1T_size bs i (p + 1) (out ++ ET.str.at txts (pickV bs p 9).toNat)
    have h2 := txts_size (pickV bs p 9).toNat
    rw [ByteArray.size_append] at h1
    unfold l1T; omega
/-- A text that is drawn, and where the reader goes on. -/
def textV (bs : List UInt8) (p : Int) : ByteArray := l1T bs (pickV bs p 7).toNat (p + 1) ⟨#[]⟩
def textP (bs : List UInt8) (p : Int) : Int := p + 1 + pickV bs p 7
theorem textV_size (bs : List UInt8) (p : Int) (h : rdOk bs p) : (textV bs p).size ≤ 18 := by
  have h1 := pickV_in bs p 7 h.1 (by have := h.2.1; omega) (by omega)
  have h2 := l1T_size bs (pickV bs p 7).toNat (p + 1) ⟨#[]⟩
  have h3 : (⟨#[]⟩ : ByteArray).size = 0 := rfl
  unfold textV; omega
theorem textP_in (bs : List UInt8) (p : Int) (h : rdOk bs p) : p + 1 ≤ textP bs p ∧ textP bs p ≤ p + 7 := by
  have h1 := pickV_in bs p 7 h.1 (by have := h.2.1; omega) (by omega)
  unfold textP; omega
@[go_sem] def ctText : Ct := ⟨true, [], fun args os => match args, os with
  | [.one (.ptr 0 0)], [.cells [.isl .byte bs, .val (.int .i64 p)]] => ⟨rdOk bs p, vs (textV bs p), [(0, some (rdO bs (textP bs p)))], []⟩
  | _, _ => no⟩
@[go_sem] def sgText (bs : List UInt8) (p : Int) (i : Nat) (out : ByteArray) : Sg := ⟨[(0, .one (.ptr 0 0)), (3, vs out), (4, vi i)], [some (rdO bs p)], [0]⟩
theorem s_text_e : EnterOk Tryz.prog 119 := ⟨_, Tryz.func119, rfl, by decide⟩
@[go_sem] def s_text_lv : List (List Nat) := [[0], [0, 3], [0, 3, 4], [0, 3, 4, 8], [0, 3, 4], [0, 3, 4], [2]]
@[go_sem] noncomputable def s_text_K : Known := ((Known.nil).cons 117 ctPick s_pick s_pick_e).cons 121 ctOf s_of s_of_e
set_option maxHeartbeats 8000000 in
theorem s_text : Sound Tryz.prog 119 ctText := by
  have ke := s_text_K.env []
  have kl : Lives s_text_lv := trivial
  refine sound_intro (E := ⟨ti, s_text_K.Γ, []⟩) ke Tryz.func119 Tryz.ntmps119 rfl (rs := [.tmp 2]) rfl ?_
  intro args os hp
  unfold ctText at hp ⊢
  dsimp only at hp ⊢
  split at hp
  · rename_i bs p
    refine ⟨by simp, fun φ0 w0 => ?_⟩
    have hr : rdOk bs p := hp
    obtain ⟨h1, h2, h3⟩ := hr
    have h7 := pickV_in bs p 7 h1 (by omega) (by omega)
    have hT : textP bs p = p + 1 + pickV bs p 7 := rfl
    have hV : textV bs p = l1T bs (pickV bs p 7).toNat (p + 1) ⟨#[]⟩ := rfl
    refine goh trivial ?_
    refine W_le (σ' := sgText bs (p + 1) (pickV bs p 7).toNat ⟨#[]⟩) [some 0] (by
      simp only [go_sem, inj_r, ↓reduceIte, reduceCtorEq, Nat.reduceAdd, Nat.reduceLT, Nat.reduceLeDiff, Nat.reduceEqDiff, Int.reduceEq]
      all_goals (repeat' refine And.intro ?_ ?_) <;> try exact shut7
      ) ?_
    refine W_loop (fun n σ => ∃ (i : Nat) (q : Int) (out : ByteArray), n = i ∧ i ≤ 6 ∧ out.size ≤ 3 * (6 - i) ∧ 0 ≤ q ∧ q + i = textP bs p ∧ l1T bs i q out = textV bs p ∧ σ = sgText bs q i out) (pickV bs p 7).toNat ⟨_, _, _, rfl, by omega, Nat.zero_le _, by omega, by omega, hV.symm, rfl⟩ ?_
    rintro n σ ⟨i, q, out, rfl, hi, ho, hq, hqi, hl, rfl⟩
    unfold sgText
    refine goh trivial ?_
    refine W_cnd ?_ ?_ <;> (try simp only [cnd_r]) <;> intro hlt
    · obtain ⟨j, rfl⟩ : ∃ j, n = j + 1 := ⟨n - 1, by omega⟩
      have h9 := pickV_in bs q 9 hq (by omega) (by omega)
      have ht := txts_size (pickV bs q 9).toNat
      simp only [ET.at, txts] at ht
      refine goh trivial ?_
      refine ⟨j, [some 0], sgText bs (q + 1) j (out ++ ET.str.at txts (pickV bs q 9).toNat), by omega, ?_, j, q + 1, _, rfl, by omega, ?_, by omega, by omega, hl, rfl⟩
      · exact leh trivial
      · simp only [ET.at, txts, ByteArray.size_append]; omega
    · refine goh trivial ?_
      refine ⟨by (simp only [go_sem, ↓reduceIte, reduceCtorEq, Nat.reduceAdd, Nat.reduceLT, Nat.reduceLeDiff, Nat.reduceEqDiff]) <;> trivial, [some 0], ?_⟩
      all_goals try simp only [go_sem, inj_r, ↓reduceIte, reduceCtorEq, Nat.reduceAdd, Nat.reduceLT, Nat.reduceLeDiff, Nat.reduceEqDiff, Int.reduceEq]
      all_goals (repeat' refine And.intro ?_ ?_) <;> try exact shut7
      · have : n = 0 := by omega
        subst this
        exact hl
  · simp [no] at hp
def fates : List Int := [0, 1, 1, 1, 2, 3]
def l2F (bs : List UInt8) : Nat → Int → List Int → List Int
  | 0, _, out => out
  | i + 1, p, out => l2F bs i (p + 1) (out ++ [ET.int.at fates (pickV bs p 6).toNat])
theorem l2F_len (bs : List UInt8) : ∀ (i : Nat) (p : Int) (out : List Int), (l2F bs i p out).length = out.length + i
  | 0, p, out => by simp [l2F]
  | i + 1, p, out => by
    have h1 := l2F_len bs i (p + 1) (out ++ [ET.int.at fates (pickV bs p 6).toNat])
    rw [List.length_append] at h1
    simp only [List.length_cons, List.length_nil] at h1
    unfold l2F; omega
/-- What becomes of writes, as it is drawn. -/
def fateV (bs : List UInt8) (p : Int) : List Int := l2F bs (pickV bs p 16).toNat (p + 1) []
def fateP (bs : List UInt8) (p : Int) : Int := p + 1 + pickV bs p 16
theorem fateV_len (bs : List UInt8) (p : Int) (h : rdOk bs p) : (fateV bs p).length ≤ 15 := by
  have h1 := pickV_in bs p 16 h.1 (by have := h.2.1; omega) (by omega)
  unfold fateV; rw [l2F_len]; simp only [List.length_nil]; omega
theorem fateP_in (bs : List UInt8) (p : Int) (h : rdOk bs p) : p + 1 ≤ fateP bs p ∧ fateP bs p ≤ p + 16 := by
  have h1 := pickV_in bs p 16 h.1 (by have := h.2.1; omega) (by omega)
  unfold fateP; omega
@[go_sem] def ctFate : Ct := ⟨true, [], fun args os => match args, os with
  | [.one (.ptr 0 0)], [.cells [.isl .byte bs, .val (.int .i64 p)]] => ⟨rdOk bs p, .one (.osl .int 1 0 (fateV bs p).length), [(0, some (rdO bs (fateP bs p)))], [.arr .int (fateV bs p)]⟩
  | _, _ => no⟩
@[go_sem] def sgFate (bs : List UInt8) (p : Int) (i : Nat) (out : List Int) : Sg := ⟨[(0, .one (.ptr 0 0)), (3, .one (.osl .int 1 0 out.length)), (4, vi i)], [some (rdO bs p), some (.arr .int out)], [0]⟩
/-- A text n times. -/
def manyL : Nat → ByteArray → Nat → ByteArray → ByteArray
  | 0, _, _, out => out
  | f + 1, s, n, out => if n = 0 then out else manyL f (s ++ s) (n / 2) (if n % 2 = 1 then out ++ s else out)
theorem manyL_size : ∀ (f : Nat) (s : ByteArray) (n : Nat) (out : ByteArray), n < 2 ^ f → (manyL f s n out).size = out.size + n * s.size
  | 0, s, n, out, h => by
    have : n = 0 := by simp at h; exact h
    subst this; simp [manyL]
  | f + 1, s, n, out, h => by
    unfold manyL
    split
    · rename_i h0; subst h0; simp
    · rw [manyL_size f _ _ _ (by rw [Nat.pow_succ] at h; omega), ByteArray.size_append]
      have e : n * s.size = (n / 2) * (s.size + s.size) + (n % 2) * s.size := by
        have : n = 2 * (n / 2) + n % 2 := by omega
        rw [Nat.mul_add, ← Nat.add_mul, ← Nat.add_mul]; congr 1; omega
      split
      · rename_i h1; rw [e, h1, ByteArray.size_append]; omega
      · rename_i h1
        have : n % 2 = 0 := by omega
        rw [e, this]; omega
theorem manyL_enough : ∀ (f : Nat) (s : ByteArray) (n : Nat) (out : ByteArray), n < 2 ^ f → manyL (f + 1) s n out = manyL f s n out
  | 0, s, n, out, h => by
    have : n = 0 := by simp at h; exact h
    subst this; simp [manyL]
  | f + 1, s, n, out, h => by
    have h2 : n / 2 < 2 ^ f := by rw [Nat.pow_succ] at h; omega
    conv => lhs; unfold manyL
    conv => rhs; unfold manyL
    rw [manyL_enough f _ _ _ h2]
def many (s : ByteArray) (n : Nat) : ByteArray := manyL 10 s n ⟨#[]⟩
theorem many_size (s : ByteArray) (n : Nat) (h : n ≤ 1000) : (many s n).size = n * s.size := by
  unfold many; rw [manyL_size _ _ _ _ (by omega)]; exact Nat.zero_add _
theorem manyL_step (s : ByteArray) (n : Nat) (out : ByteArray) (h : n ≤ 1000) (h0 : n ≠ 0) : manyL 10 s n out = manyL 10 (s ++ s) (n / 2) (if n % 2 = 1 then out ++ s else out) := by
  conv => lhs; unfold manyL
  rw [if_neg h0, ← manyL_enough 9 _ _ _ (by omega)]
@[go_sem] def ctMany : Ct := ⟨false, [], fun args os => match args, os with
  | [.one (.val (.string s)), .one (.val (.int .i64 n))], [] => ifp (0 ≤ n ∧ n ≤ 1000 ∧ s.size ≤ 100) (vs (many s n.toNat))
  | _, _ => no⟩
@[go_sem] def sgMany (s : ByteArray) (n : Nat) (out : ByteArray) : Sg := ⟨[(0, vs s), (1, vi n), (5, vs out)], [], []⟩
theorem s_many_e : EnterOk Tryz.prog 122 := ⟨_, Tryz.func122, rfl, by decide⟩
@[go_sem] def s_many_lv : List (List Nat) := [[0, 1], [0, 1, 5], [0, 1, 5, 7], [0, 1, 5, 10], [0, 1, 5], [0, 1, 5], [0, 1, 5], [4]]
@[go_sem] noncomputable def s_many_K : Known := Known.nil
set_option maxHeartbeats 8000000 in
theorem s_many : Sound Tryz.prog 122 ctMany := by
  have ke := s_many_K.env []
  have kl : Lives s_many_lv := trivial
  refine sound_intro (E := ⟨ti, s_many_K.Γ, []⟩) ke Tryz.func122 Tryz.ntmps122 rfl (rs := [.tmp 4]) rfl ?_
  intro args os hp
  unfold ctMany at hp ⊢
  dsimp only at hp ⊢
  split at hp
  · rename_i s0 n0
    refine ⟨by simp, fun φ0 w0 => ?_⟩
    obtain ⟨h1, h2, h3⟩ : 0 ≤ n0 ∧ n0 ≤ 1000 ∧ s0.size ≤ 100 := hp
    obtain ⟨n0, rfl⟩ := Int.eq_ofNat_of_zero_le h1
    have hb : n0 * s0.size ≤ 100000 := Nat.mul_le_mul (show n0 ≤ 1000 by omega) h3
    have hn0 : (n0 : Int).toNat = n0 := Int.toNat_natCast n0
    refine goh trivial ?_
    refine W_le (σ' := sgMany s0 n0 ⟨#[]⟩) [] (by
      simp only [go_sem, inj_r, ↓reduceIte, reduceCtorEq, Nat.reduceAdd, Nat.reduceLT, Nat.reduceLeDiff, Nat.reduceEqDiff, Int.reduceEq]
      all_goals (repeat' refine And.intro ?_ ?_) <;> try exact shut7
      ) ?_
    refine W_loop (fun n σ => ∃ (s : ByteArray) (i : Nat) (out : ByteArray), n = i ∧ i ≤ 1000 ∧ out.size + i * s.size ≤ 100000 ∧ s.size ≤ 200000 ∧ manyL 10 s i out = many s0 n0 ∧ σ = sgMany s i out) n0 ⟨_, _, _, rfl, by omega, by rw [show (⟨#[]⟩ : ByteArray).size = 0 from rfl]; omega, by omega, rfl, rfl⟩ ?_
    rintro n σ ⟨s, i, out, rfl, hi, ho, hs, hm, rfl⟩
    unfold sgMany
    refine goh trivial ?_
    refine W_cnd ?_ ?_ <;> (try simp only [cnd_r]) <;> intro hlt
    · have hr : ((n : Int)).tmod 2 = ((n % 2 : Nat) : Int) := (Int.ofNat_tmod _ _).symm
      have hq : IntKind.i64.wrap (((n : Int)).tdiv 2) = ((n / 2 : Nat) : Int) := by
        have : (n : Int).tdiv 2 = ((n / 2 : Nat) : Int) := (Int.ofNat_tdiv _ _).symm
        rw [this]; exact wrap_id _ (by omega) (by omega)
      have hst := manyL_step s n out (by omega) (by omega)
      have hs1 : s.size ≤ 100000 := by have := Nat.mul_le_mul_right s.size (show 1 ≤ n by omega); omega
      have e : n * s.size = (n / 2) * (s.size + s.size) + (n % 2) * s.size := by
        have : n = 2 * (n / 2) + n % 2 := by omega
        rw [Nat.mul_add, ← Nat.add_mul, ← Nat.add_mul]; congr 1; omega
      refine goh hr ?_
      refine W_cond _ (by exact rfl) (by exact trivial) ?_ ?_ <;> intro hc
      · have h1 : n % 2 = 1 := by simp only [beq_iff_eq] at hc; omega
        rw [if_pos h1] at hst
        rw [h1] at e
        refine goh hq ?_
        refine ⟨n / 2, [], sgMany (s ++ s) (n / 2) (out ++ s), by omega, ?_, _, _, _, rfl, by omega, ?_, ?_, hst ▸ hm, rfl⟩
        · exact leh trivial
        · rw [ByteArray.size_append, ByteArray.size_append]; omega
        · rw [ByteArray.size_append]; omega
      · have h1 : n % 2 = 0 := by
          have : ¬ (((n % 2 : Nat) : Int) = 1) := by simpa using hc
          omega
        rw [if_neg (by omega)] at hst
        rw [h1] at e
        refine goh hq ?_
        refine ⟨n / 2, [], sgMany (s ++ s) (n / 2) out, by omega, ?_, _, _, _, rfl, by omega, ?_, ?_, hst ▸ hm, rfl⟩
        · exact leh trivial
        · rw [ByteArray.size_append]; omega
        · rw [ByteArray.size_append]; omega
    · refine goh trivial ?_
      have : n = 0 := by omega
      subst this
      have hm : out = many s0 n0 := hm
      subst hm
      exact finh [] trivial
  · simp [no, ifp] at hp
end Go.Proofs.YtmnbgppmfbnamaaGreatDoor
/- Functions: a disk that is drawn. -/
namespace Go.Proofs.YtmnbgppmfbnamaaGreatDoor
open Go.RowKit

@[go_sem] theorem Dk.eta (d : Dk) : Dk.mk d.a d.b d.l = d := rfl
def dstep1 (bs : List UInt8) (d : Dk) (p : Int) : Dk := dkWrite d (pickV bs p 2) (pickV bs (p + 1) 6) (textV bs (p + 2))
def dstep (bs : List UInt8) (d : Dk) (p : Int) : Dk × Int :=
  if pickV bs (textP bs (p + 2)) 8 = 0 then (dkFlush (dstep1 bs d p), textP bs (p + 2) + 1)
  else if pickV bs (textP bs (p + 2)) 8 = 1 then (dkFall (dstep1 bs d p) (fateV bs (textP bs (p + 2) + 1)), fateP bs (textP bs (p + 2) + 1))
  else (dstep1 bs d p, textP bs (p + 2) + 1)
def dsteps (bs : List UInt8) : Nat → Dk → Int → Dk × Int
  | 0, d, p => (d, p)
  | i + 1, d, p => dsteps bs i (dstep bs d p).1 (dstep bs d p).2
def bend (bs : List UInt8) (d : Dk) (p : Int) : Dk × Int :=
  if pickV bs p 24 = 0 then (⟨d.a, d.b ++ [⟨#[]⟩], d.l⟩, p + 1)
  else if pickV bs p 24 = 1 then (⟨d.a, d.b, d.l ++ [⟨ET.int.at [-1, 2, 0] (pickV bs (p + 1) 3).toNat, ET.int.at [-1, 6, 0] (pickV bs (p + 2) 3).toNat, ⟨#[]⟩⟩]⟩, p + 3)
  else if pickV bs p 24 = 2 then (⟨[], d.b, d.l⟩, p + 1)
  else (d, p + 1)
def drawDisk0 (bs : List UInt8) (p : Int) : Dk × Int := dsteps bs (pickV bs (p + 1) 14).toNat (dkOpen (1 + pickV bs p 6)) (p + 2)
/-- A disk that is drawn, and where the reader goes on. -/
def drawDisk (bs : List UInt8) (p : Int) : Dk × Int := bend bs (drawDisk0 bs p).1 (drawDisk0 bs p).2
/-- Few sectors, few writes. -/
def Dk.few (d : Dk) (n : Nat) : Prop := d.a.length ≤ 6 ∧ d.b.length ≤ 6 ∧ d.l.length ≤ n
theorem Dk.few_write {d : Dk} {n : Nat} (h : d.few n) (s k : Int) (t : ByteArray) : (dkWrite d s k t).few (n + 1) := by
  obtain ⟨h1, h2, h3⟩ := h
  unfold dkWrite
  split
  · split
    · refine ⟨h1, h2, ?_⟩
      show (d.l ++ [_]).length ≤ n + 1
      rw [List.length_append]; simp only [List.length_cons, List.length_nil]; omega
    · exact ⟨h1, h2, by omega⟩
  · exact ⟨Nat.zero_le _, Nat.zero_le _, Nat.zero_le _⟩
theorem Dk.few_flush {d : Dk} {n : Nat} (h : d.few n) : (dkFlush d).few n := by
  obtain ⟨h1, h2, h3⟩ := h
  unfold dkFlush
  split
  · have := d.done_len d.l.length
    exact ⟨by show (d.done _).1.length ≤ 6; omega, by show (d.done _).2.length ≤ 6; omega, Nat.zero_le _⟩
  · exact ⟨Nat.zero_le _, Nat.zero_le _, Nat.zero_le _⟩
theorem Dk.few_fall {d : Dk} {n : Nat} (h : d.few n) (f : List Int) : (dkFall d f).few n := by
  obtain ⟨h1, h2, h3⟩ := h
  unfold dkFall
  split
  · have := d.fallN_len f (min d.l.length f.length)
    exact ⟨by show (d.fallN f _).1.length ≤ 6; omega, by show (d.fallN f _).2.length ≤ 6; omega, Nat.zero_le _⟩
  · exact ⟨Nat.zero_le _, Nat.zero_le _, Nat.zero_le _⟩
theorem dstep_few (bs : List UInt8) (d : Dk) (p : Int) {n : Nat} (h : d.few n) : (dstep bs d p).1.few (n + 1) := by
  have h1 : (dstep1 bs d p).few (n + 1) := Dk.few_write h _ _ _
  unfold dstep
  split
  · exact Dk.few_flush h1
  · split
    · exact Dk.few_fall h1 _
    · exact h1
theorem dstep_p (bs : List UInt8) (d : Dk) (p : Int) (hp : 0 ≤ p) (hp2 : p ≤ 800000) (hb : bs.length ≤ 2000) : p + 1 ≤ (dstep bs d p).2 ∧ (dstep bs d p).2 ≤ p + 30 := by
  have h1 := textP_in bs (p + 2) ⟨by omega, by omega, hb⟩
  have h2 := fateP_in bs (textP bs (p + 2) + 1) ⟨by omega, by omega, hb⟩
  unfold dstep
  split
  · simp only; omega
  · split
    · simp only; omega
    · simp only; omega
theorem dkOpen_few (n : Int) (h : n ≤ 6) : (dkOpen n).few 0 := by
  unfold dkOpen
  split
  · exact ⟨by show (List.replicate _ _).length ≤ 6; rw [List.length_replicate]; omega, by show (List.replicate _ _).length ≤ 6; rw [List.length_replicate]; omega, Nat.zero_le _⟩
  · exact ⟨Nat.zero_le _, Nat.zero_le _, Nat.zero_le _⟩
theorem dsteps_all (bs : List UInt8) (hb : bs.length ≤ 2000) : ∀ (i : Nat) (d : Dk) (p : Int) (n : Nat), 0 ≤ p → p + 30 * i ≤ 800000 → d.few n → (dsteps bs i d p).1.few (n + i) ∧ p ≤ (dsteps bs i d p).2 ∧ (dsteps bs i d p).2 ≤ p + 30 * i
  | 0, d, p, n, h0, h1, h2 => by
    refine ⟨h2, Int.le_refl _, ?_⟩
    show p ≤ _
    omega
  | i + 1, d, p, n, h0, h1, h2 => by
    have hs := dstep_p bs d p h0 (by omega) hb
    obtain ⟨k1, k2, k3⟩ := dsteps_all bs hb i (dstep bs d p).1 (dstep bs d p).2 (n + 1) (by omega) (by omega) (dstep_few bs d p h2)
    refine ⟨?_, ?_, ?_⟩
    · have : n + (i + 1) = n + 1 + i := by omega
      rw [this]; exact k1
    · show p ≤ (dsteps bs i _ _).2; omega
    · show (dsteps bs i _ _).2 ≤ _; omega
def rdOk2 (bs : List UInt8) (p : Int) : Prop := 0 ≤ p ∧ p ≤ 700000 ∧ bs.length ≤ 2000
theorem drawDisk0_all (bs : List UInt8) (p : Int) (h : rdOk2 bs p) : (drawDisk0 bs p).1.few 13 ∧ p ≤ (drawDisk0 bs p).2 ∧ (drawDisk0 bs p).2 ≤ p + 500 := by
  obtain ⟨h1, h2, h3⟩ := h
  have h7 := pickV_in bs p 6 h1 (by omega) (by omega)
  have h8 := pickV_in bs (p + 1) 14 (by omega) (by omega) (by omega)
  obtain ⟨k1, k2, k3⟩ := dsteps_all bs h3 (pickV bs (p + 1) 14).toNat (dkOpen (1 + pickV bs p 6)) (p + 2) 0 (by omega) (by omega) (dkOpen_few _ (by omega))
  unfold drawDisk0
  refine ⟨⟨k1.1, k1.2.1, Nat.le_trans k1.2.2 (by omega)⟩, by omega, by omega⟩
theorem drawDisk_all (bs : List UInt8) (p : Int) (h : rdOk2 bs p) : ((drawDisk bs p).1.a.length ≤ 7 ∧ (drawDisk bs p).1.b.length ≤ 7 ∧ (drawDisk bs p).1.l.length ≤ 14) ∧ p ≤ (drawDisk bs p).2 ∧ (drawDisk bs p).2 ≤ p + 503 := by
  obtain ⟨⟨k1, k2, k3⟩, k4, k5⟩ := drawDisk0_all bs p h
  unfold drawDisk bend
  split
  · refine ⟨⟨by simp only; omega, ?_, by simp only; omega⟩, by simp only; omega, by simp only; omega⟩
    simp only [List.length_append, List.length_cons, List.length_nil]; omega
  · split
    · refine ⟨⟨by simp only; omega, by simp only; omega, ?_⟩, by simp only; omega, by simp only; omega⟩
      simp only [List.length_append, List.length_cons, List.length_nil]; omega
    · split
      · exact ⟨⟨Nat.zero_le _, by simp only; omega, by simp only; omega⟩, by simp only; omega, by simp only; omega⟩
      · exact ⟨⟨by simp only; omega, by simp only; omega, by simp only; omega⟩, by simp only; omega, by simp only; omega⟩
@[go_sem] def ctDrawDisk : Ct := ⟨true, [], fun args os => match args, os with
  | [.one (.ptr 0 0)], [.cells [.isl .byte bs, .val (.int .i64 p)]] => ⟨rdOk2 bs p, (drawDisk bs p).1.v 1, [(0, some (rdO bs (drawDisk bs p).2))], (drawDisk bs p).1.objs⟩
  | _, _ => no⟩
@[go_sem] def sgDraw (bs : List UInt8) (p : Int) (i : Nat) (d : Dk) : Sg := ⟨[(0, .one (.ptr 0 0)), (2, .one (.ptr 1 0)), (3, .one (.ptr 2 0)), (4, vi i)],
  [some (rdO bs p), some (.cells [.val (.slice none 0 0), .val (.slice none 0 0), .val (.slice none 0 0)]), some (.cells [.osl .str 3 0 d.a.length, .osl .str 4 0 d.b.length, .osl .late 5 0 d.l.length]), some (.arr .str d.a), some (.arr .str d.b), some (.arr .late d.l)], [0]⟩
end Go.Proofs.YtmnbgppmfbnamaaGreatDoor
/- Functions: a disk of blocks that is drawn. -/
namespace Go.Proofs.YtmnbgppmfbnamaaGreatDoor
open Go.RowKit

def l3s : List ByteArray := [⟨#[97]⟩, ⟨#[98, 98]⟩, ⟨#[120, 32, 121]⟩, ⟨#[97]⟩, ⟨#[]⟩]
/-- n blocks written, from place i on. -/
def l3W (bs : List UInt8) : Nat → Int → Dk → Int → Dk
  | 0, _, d, _ => d
  | n + 1, i, d, p => l3W bs n (i + 1) (blkWrite d i (ET.str.at l3s (pickV bs p 5).toNat)) (p + 1)
/-- n writes. -/
def l3V (bs : List UInt8) : Nat → Dk → Int → Dk × Int
  | 0, d, p => (d, p)
  | n + 1, d, p => l3V bs n (dstep1 bs d p) (textP bs (p + 2))
def l3a (bs : List UInt8) (p : Int) : Dk := l3W bs 5 1 (dkOpen 6) p
def l3b (bs : List UInt8) (p : Int) : Dk := if pickV bs (p + 5) 2 = 0 then dkFlush (l3a bs p) else l3a bs p
def l3c (bs : List UInt8) (p : Int) : Dk × Int := l3V bs (pickV bs (p + 6) 3).toNat (l3b bs p) (p + 7)
def blkDisk (bs : List UInt8) (p : Int) : Dk × Int := (if pickV bs (l3c bs p).2 16 = 0 then ⟨[], (l3c bs p).1.b, (l3c bs p).1.l⟩ else (l3c bs p).1, (l3c bs p).2 + 1)
theorem few_blk {d : Dk} {n : Nat} (h : d.few n) (k : Int) (t : ByteArray) : (blkWrite d k t).few (n + 2) := by
  obtain ⟨h1, h2, h3⟩ := h
  unfold blkWrite
  split
  · split
    · refine ⟨h1, h2, ?_⟩
      show (d.l ++ [_] ++ [_]).length ≤ n + 2
      simp only [List.length_append, List.length_cons, List.length_nil]; omega
    · exact ⟨h1, h2, by omega⟩
  · exact ⟨Nat.zero_le _, Nat.zero_le _, Nat.zero_le _⟩
theorem few_mono {d : Dk} {n m : Nat} (h : d.few n) (hm : n ≤ m) : d.few m := ⟨h.1, h.2.1, Nat.le_trans h.2.2 hm⟩
theorem l3W_few (bs : List UInt8) : ∀ (n : Nat) (i : Int) (d : Dk) (p : Int) (m : Nat), d.few m → (l3W bs n i d p).few (m + 2 * n)
  | 0, _, _, _, _, h => h
  | n + 1, i, d, p, m, h => few_mono (l3W_few bs n (i + 1) _ (p + 1) (m + 2) (few_blk h _ _)) (by omega)
theorem l3V_all (bs : List UInt8) (hb : bs.length ≤ 2000) : ∀ (n : Nat) (d : Dk) (p : Int) (m : Nat), 0 ≤ p → p + 10 * n ≤ 800000 → d.few m → (l3V bs n d p).1.few (m + n) ∧ p ≤ (l3V bs n d p).2 ∧ (l3V bs n d p).2 ≤ p + 10 * n
  | 0, d, p, m, h0, h1, h2 => ⟨h2, Int.le_refl _, by show p ≤ _; omega⟩
  | n + 1, d, p, m, h0, h1, h2 => by
    have ht := textP_in bs (p + 2) ⟨by omega, by omega, hb⟩
    obtain ⟨k1, k2, k3⟩ := l3V_all bs hb n (dstep1 bs d p) (textP bs (p + 2)) (m + 1) (by omega) (by omega) (Dk.few_write h2 _ _ _)
    refine ⟨few_mono k1 (by omega), ?_, ?_⟩
    · show p ≤ (l3V bs n _ _).2; omega
    · show (l3V bs n _ _).2 ≤ _; omega
theorem l3s_size (i : Nat) : (ET.str.at l3s i).size ≤ 3 := at_size (by decide) i
theorem blkDisk_all (bs : List UInt8) (p : Int) (h : rdOk2 bs p) : ((l3b bs p).few 10 ∧ (l3c bs p).1.few 12 ∧ p + 7 ≤ (l3c bs p).2 ∧ (l3c bs p).2 ≤ p + 27) := by
  obtain ⟨h1, h2, h3⟩ := h
  have ha : (l3a bs p).few 10 := few_mono (l3W_few bs 5 1 _ p 0 (dkOpen_few 6 (by omega))) (by omega)
  have hb : (l3b bs p).few 10 := by
    unfold l3b; split
    · exact Dk.few_flush ha
    · exact ha
  have hp := pickV_in bs (p + 6) 3 (by omega) (by omega) (by omega)
  obtain ⟨k1, k2, k3⟩ := l3V_all bs h3 (pickV bs (p + 6) 3).toNat (l3b bs p) (p + 7) 10 (by omega) (by omega) hb
  refine ⟨hb, few_mono k1 (by omega), by unfold l3c; omega, by unfold l3c; omega⟩
@[go_sem] def ctBlkDisk : Ct := ⟨true, [], fun args os => match args, os with
  | [.one (.ptr 0 0)], [.cells [.isl .byte bs, .val (.int .i64 p)]] => ⟨rdOk2 bs p, (blkDisk bs p).1.v 1, [(0, some (rdO bs (blkDisk bs p).2))], (blkDisk bs p).1.objs⟩
  | _, _ => no⟩
@[go_sem] def sgB3 (bs : List UInt8) (p : Int) (i : Nat) (d : Dk) : Sg := ⟨[(0, .one (.ptr 0 0)), (2, .one (.ptr 1 0)), (3, .one (.ptr 2 0)), (5, vi i)], (sgDraw bs p i d).tab, [0]⟩
structure Box (X : Prop) : Prop where
  out : X
theorem merge {A X : Prop} (h : Box X → A) (x : X) : A := h ⟨x⟩
end Go.Proofs.YtmnbgppmfbnamaaGreatDoor
/- Functions: what is drawn to fall, to be written. -/
namespace Go.Proofs.YtmnbgppmfbnamaaGreatDoor
open Go.RowKit

def fallF (code : List UInt8) : List Int := fateV (code.take 2000) 0
def fallD (code : List UInt8) : Dk := (drawDisk (code.take 2000) (fateP (code.take 2000) 0)).1
theorem take2000 (code : List UInt8) : (code.take 2000).length ≤ 2000 := by rw [List.length_take]; omega
theorem fall_all (code : List UInt8) : ((fallD code).a.length ≤ 7 ∧ (fallD code).b.length ≤ 7 ∧ (fallD code).l.length ≤ 14) ∧ (fallF code).length ≤ 15 := by
  have h := fateP_in (code.take 2000) 0 ⟨by omega, by omega, take2000 code⟩
  exact ⟨(drawDisk_all (code.take 2000) _ ⟨by omega, by omega, take2000 code⟩).1, fateV_len _ _ ⟨by omega, by omega, take2000 code⟩⟩
@[go_sem] def ctDrawFall : Ct := ⟨false, [[some .byte]], fun args os => match args, os with
  | [.one (.isl .byte code)], [] => ⟨code.length ≤ 1048576, .tup [(fallD code).v 0, .one (.osl .int 3 0 (fallF code).length)], [], (fallD code).objs ++ [.arr .int (fallF code)]⟩
  | _, _ => no⟩
def wrP (code : List UInt8) : Int := (drawDisk (code.take 2000) 0).2
def wrD (code : List UInt8) : Dk := (drawDisk (code.take 2000) 0).1
def wrS (code : List UInt8) : Int := ET.int.at [0, 0, 1, 1, -1, 2] (pickV (code.take 2000) (wrP code) 6).toNat
def wrA (code : List UInt8) : Int := pickV (code.take 2000) (wrP code + 1) 8 - 1
def wrT (code : List UInt8) : ByteArray := if pickV (code.take 2000) (wrP code + 2) 20 = 0 then many ⟨#[120]⟩ (420 + pickV (code.take 2000) (wrP code + 3) 2).toNat else textV (code.take 2000) (wrP code + 3)
theorem wr_all (code : List UInt8) : ((wrD code).a.length ≤ 7 ∧ (wrD code).b.length ≤ 7 ∧ (wrD code).l.length ≤ 14) ∧ 0 ≤ wrP code ∧ wrP code ≤ 503 ∧ (wrT code).size ≤ 421 := by
  obtain ⟨h1, h2, h3⟩ := drawDisk_all (code.take 2000) 0 ⟨by omega, by omega, take2000 code⟩
  have h2' : 0 ≤ wrP code := h2
  have h3' : wrP code ≤ 0 + 503 := h3
  refine ⟨h1, h2', by omega, ?_⟩
  unfold wrT
  split
  · have := pickV_in (code.take 2000) (wrP code + 3) 2 (by omega) (by omega) (by omega)
    rw [many_size _ _ (by omega)]
    show _ * 1 ≤ _
    omega
  · have := textV_size (code.take 2000) (wrP code + 3) ⟨by omega, by omega, take2000 code⟩
    omega
@[go_sem] def ctDrawWrite : Ct := ⟨false, [[some .byte]], fun args os => match args, os with
  | [.one (.isl .byte code)], [] => ⟨code.length ≤ 1048576, .tup [(wrD code).v 0, vi (wrS code), vi (wrA code), vs (wrT code)], [], (wrD code).objs⟩
  | _, _ => no⟩
end Go.Proofs.YtmnbgppmfbnamaaGreatDoor
/- Functions: a block that is drawn to be written. -/
namespace Go.Proofs.YtmnbgppmfbnamaaGreatDoor
open Go.RowKit

def bwP (code : List UInt8) : Int := (blkDisk (code.take 2000) 0).2
def bwD (code : List UInt8) : Dk := (blkDisk (code.take 2000) 0).1
def bwA (code : List UInt8) : Int := pickV (code.take 2000) (bwP code) 8 - 1
def bwT (code : List UInt8) : ByteArray := textV (code.take 2000) (bwP code + 1)
theorem bw_all (code : List UInt8) : ((bwD code).a.length ≤ 6 ∧ (bwD code).b.length ≤ 6 ∧ (bwD code).l.length ≤ 12) ∧ 0 ≤ bwP code ∧ bwP code ≤ 30 ∧ (bwT code).size ≤ 421 ∧ -1 ≤ bwA code ∧ bwA code ≤ 6 := by
  obtain ⟨-, ⟨h1, h2, h3⟩, h4, h5⟩ := blkDisk_all (code.take 2000) 0 ⟨by omega, by omega, take2000 code⟩
  have e : bwP code = (l3c (code.take 2000) 0).2 + 1 := rfl
  have hp := pickV_in (code.take 2000) (bwP code) 8 (by omega) (by omega) (by omega)
  have ht := textV_size (code.take 2000) (bwP code + 1) ⟨by omega, by omega, take2000 code⟩
  refine ⟨?_, by omega, by omega, by unfold bwT; omega, by unfold bwA; omega, by unfold bwA; omega⟩
  unfold bwD blkDisk
  split
  · exact ⟨Nat.zero_le _, h2, h3⟩
  · exact ⟨h1, h2, h3⟩
@[go_sem] def ctDrawBlk : Ct := ⟨false, [[some .byte]], fun args os => match args, os with
  | [.one (.isl .byte code)], [] => ⟨code.length ≤ 1048576, .tup [(bwD code).v 0, vi (bwA code), vs (bwT code)], [], (bwD code).objs⟩
  | _, _ => no⟩
end Go.Proofs.YtmnbgppmfbnamaaGreatDoor
/- Functions: a disk and a pointer that are drawn. -/
namespace Go.Proofs.YtmnbgppmfbnamaaGreatDoor
open Go.RowKit

theorem ptrOk_real' {p : Ptr} (h : realB p = true) : 1 ≤ p.at_ ∧ ptrOkB p = true := by
  have h2 := h
  unfold realB ptrOkB at h
  unfold realB at h2
  rw [Bool.and_eq_true] at h2
  simp only [Bool.and_eq_true, Bool.or_eq_true, decide_eq_true_eq, Bool.not_eq_true', beq_eq_false_iff_ne, ne_eq] at h
  exact ⟨by omega, h2.1⟩
theorem s_specBlkTo_e : EnterOk Tryz.prog 297 := ⟨_, Tryz.func297, rfl, by decide⟩
@[go_sem] def s_specBlkTo_lv : List (List Nat) := [[0, 1, 2, 6], [0, 6, 7], [6, 7, 19], [6], [6]]
@[go_sem] noncomputable def s_specBlkTo_K : Known := ((Known.nil).cons 135 ctSumOf s_specSum s_specSum_e).cons 158 ctPtrOk s_specPtrOk s_specPtrOk_e
set_option maxHeartbeats 8000000 in
theorem s_specBlkTo : Sound Tryz.prog 297 ctBlkTo := by
  have ke := s_specBlkTo_K.env []
  have kl : Lives s_specBlkTo_lv := trivial
  refine sound_intro (E := ⟨ti, s_specBlkTo_K.Γ, []⟩) ke Tryz.func297 Tryz.ntmps297 rfl (rs := [.cell 6 187]) rfl ?_
  intro args os hp
  unfold ctBlkTo at hp ⊢
  dsimp only at hp ⊢
  split at hp
  · rename_i a t b
    refine ⟨by simp, fun φ0 w0 => ?_⟩
    have hlen : t.size ≤ 1000000000 := hp
    clear hp
    have nt : (!true) = false := rfl
    have nf : (!false) = true := rfl
    have e : blkTo a t b = if 1 ≤ a ∧ ptrOkB ⟨a, (sumOf t : Nat), b⟩ = true then ⟨a, (sumOf t : Nat), b⟩ else ptr0 := by
      unfold blkTo
      by_cases h : realB ⟨a, (sumOf t : Nat), b⟩ = true
      · rw [if_pos h, if_pos]
        have := ptrOk_real' h
        exact this
      · rw [if_neg h, if_neg]
        rintro ⟨h1, h2⟩
        apply h
        unfold realB
        rw [h2]
        simp only [Bool.true_and, Bool.not_eq_true', beq_eq_false_iff_ne, ne_eq]
        omega
    by_cases ha : 1 ≤ a
    · have c : decide (a < 1) = false := by simp; omega
      cases hk : ptrOkB ⟨a, (sumOf t : Nat), b⟩ with
      | true =>
        rw [if_pos ⟨ha, hk⟩] at e
        refine goh (And.intro c (And.intro hk nt)) ?_
        refine W_cnd ?_ ?_ <;> intro hlit <;> try (cases hlit; done)
        refine goh trivial ?_
        exact finh [] e
      | false =>
        rw [if_neg (fun h => by rw [hk] at h; cases h.2)] at e
        refine goh (And.intro c (And.intro hk nf)) ?_
        refine W_cnd ?_ ?_ <;> intro hlit <;> try (cases hlit; done)
        refine goh trivial ?_
        refine ⟨by (simp only [go_sem, e, ptr0, ↓reduceIte, reduceCtorEq, Nat.reduceAdd, Nat.reduceLT, Nat.reduceLeDiff, Nat.reduceEqDiff]) <;> trivial, [], ?_⟩
        all_goals try simp only [go_sem, e, ptr0, inj_r, ↓reduceIte, reduceCtorEq, Nat.reduceAdd, Nat.reduceLT, Nat.reduceLeDiff, Nat.reduceEqDiff, Int.reduceEq]
        all_goals (repeat' refine And.intro ?_ ?_) <;> try exact shut7
    · have c : decide (a < 1) = true := by simp; omega
      rw [if_neg (fun h => ha h.1)] at e
      refine goh c ?_
      refine W_cnd ?_ ?_ <;> intro hlit <;> try (cases hlit; done)
      refine goh trivial ?_
      refine ⟨by (simp only [go_sem, e, ptr0, ↓reduceIte, reduceCtorEq, Nat.reduceAdd, Nat.reduceLT, Nat.reduceLeDiff, Nat.reduceEqDiff]) <;> trivial, [], ?_⟩
      all_goals try simp only [go_sem, e, ptr0, inj_r, ↓reduceIte, reduceCtorEq, Nat.reduceAdd, Nat.reduceLT, Nat.reduceLeDiff, Nat.reduceEqDiff, Int.reduceEq]
      all_goals (repeat' refine And.intro ?_ ?_) <;> try exact shut7
  · simp [no, ifp] at hp
def ptr1 (bs : List UInt8) (d : Dk) (p : Int) : Ptr := blkTo (pickV bs p 7) (dkRead d (pickV bs (p + 1) 2) (pickV bs p 7)) (pickV bs (p + 2) 9)
/-- A pointer that is drawn, and where the reader goes on. -/
def ptrD (bs : List UInt8) (d : Dk) (p : Int) : Ptr × Int :=
  if pickV bs (p + 3) 12 = 0 then (⟨(ptr1 bs d p).at_, IntKind.i64.wrap ((ptr1 bs d p).sum + ET.int.at [1, -1, 65521] (pickV bs (p + 4) 3).toNat), (ptr1 bs d p).birth⟩, p + 5)
  else if pickV bs (p + 3) 12 = 1 then (⟨ET.int.at [0, 119, 120, -1] (pickV bs (p + 4) 4).toNat, (ptr1 bs d p).sum, (ptr1 bs d p).birth⟩, p + 5)
  else if pickV bs (p + 3) 12 = 2 then (⟨(ptr1 bs d p).at_, (ptr1 bs d p).sum, ET.int.at [-1, 1000000, 1000001] (pickV bs (p + 4) 3).toNat⟩, p + 5)
  else if pickV bs (p + 3) 12 = 3 then (ptr0, p + 4) else (ptr1 bs d p, p + 4)
@[go_sem] def ctPtrD : Ct := ⟨true, [], fun args os => match args, os with
  | [.one (.ptr 0 0), .agg [.osl .str 1 0 na, .osl .str 2 0 nb, .osl .late 3 0 nl]], [.cells [.isl .byte bs, .val (.int .i64 p)], .arr .str a, .arr .str b, .arr .late l] => ⟨(0 ≤ p ∧ p ≤ 1000 ∧ bs.length ≤ 2000) ∧ (na = a.length ∧ nb = b.length ∧ nl = l.length) ∧ (Dk.mk a b l).small, (ptrD bs ⟨a, b, l⟩ p).1.tv, [(0, some (rdO bs (ptrD bs ⟨a, b, l⟩ p).2))], []⟩
  | _, _ => no⟩
def hdP (code : List UInt8) : Ptr := (ptrD (code.take 2000) (bwD code) (bwP code)).1
@[go_sem] def ctDrawHeal : Ct := ⟨false, [[some .byte]], fun args os => match args, os with
  | [.one (.isl .byte code)], [] => ⟨code.length ≤ 1048576, .tup [(bwD code).v 0, (hdP code).tv], [], (bwD code).objs⟩
  | _, _ => no⟩
end Go.Proofs.YtmnbgppmfbnamaaGreatDoor
