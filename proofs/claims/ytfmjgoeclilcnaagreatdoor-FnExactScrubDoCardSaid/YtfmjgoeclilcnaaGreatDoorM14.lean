import Derived.Lib.SlicesCompact
import Derived.Test.YtfmjgoeclilcnaaGreatDoorM5
import Derived.Test.YtfmjgoeclilcnaaGreatDoorM7
import Derived.Test.YtfmjgoeclilcnaaGreatDoorM8
import Derived.Test.YtfmjgoeclilcnaaGreatDoorM9
import Derived.Test.YtfmjgoeclilcnaaGreatDoorM10
import Derived.Test.YtfmjgoeclilcnaaGreatDoorM13
set_option linter.unusedSimpArgs false
set_option linter.unusedVariables false
set_option linter.unusedSectionVars false
namespace Go.Proofs.YtfmjgoeclilcnaaGreatDoor
open Go.RowKit
def uberOk (k : Int) (r : Ptr) : Prop := 1 ≤ k ∧ k ≤ 1000000 ∧ realB r = true
instance (k : Int) (r : Ptr) : Decidable (uberOk k r) := inferInstanceAs (Decidable (_ ∧ _ ∧ _))
def uberI (k : Int) (r : Ptr) : ByteArray := decS k ++ ⟨#[32]⟩ ++ ptrT r ++ ⟨#[32]⟩ ++ decS k
noncomputable def uberT (k : Int) (r : Ptr) : ByteArray := if uberOk k r then sealV (uberI k r) else ⟨#[]⟩
theorem ptr_plain {c : UInt8} (h0 : c ≠ 46) (h1 : c.toNat ≠ 45) (h2 : c.toNat < 48 ∨ 57 < c.toNat) (r : Ptr) : c ∉ (ptrT r).data.toList := by
 unfold ptrT
 split
 ·split
  ·intro h
   have : c = 45 := by simpa using h
   subst this; exact h1 rfl
  ·rw [pointsV_three]
   simp only [ByteArray.data_append, Array.toList_append, List.mem_append, not_or]
   have h46 : ¬ c ∈ (⟨#[46]⟩ : ByteArray).data.toList := by simpa using h0
   exact ⟨⟨⟨⟨itoa_not h1 h2 _, h46⟩, itoa_not h1 h2 _⟩, h46⟩, itoa_not h1 h2 _⟩
 ·simp
theorem uberI_size {k : Int} {r : Ptr} (h : uberOk k r) : (uberI k r).size ≤ 105 := by
 have h1 := decS_size (n := k) (by have := h.1; omega) (by have := h.2.1; omega)
 have h2 := ptrT_size r
 have h3 : (⟨#[32]⟩ : ByteArray).size = 1 := rfl
 unfold uberI
 simp only [ByteArray.size_append]
 omega
theorem uber_seal {k : Int} {r : Ptr} (h : uberOk k r) : uberT k r = decS (sumOf (uberI k r)) ++ ⟨#[58]⟩ ++ uberI k r := by
 have := uberI_size h
 unfold uberT sealV
 rw [if_pos h, if_neg (by omega)]
theorem uberI_words (k : Int) (r : Ptr) : cutL 32 (uberI k r).data.toList = [(decS k).data.toList, (ptrT r).data.toList, (decS k).data.toList] := by
 have e : (uberI k r).data.toList = (decS k).data.toList ++ 32 :: ((ptrT r).data.toList ++ 32 :: (decS k).data.toList) := by
  unfold uberI
  simp [ByteArray.data_append]
 rw [e, cut_app _ _ _ (no_blank k), cut_app _ _ _ (ptr_plain (by decide) (by decide) (by decide) r), cut_none _ _ (no_blank k)]
noncomputable def uberP (t : ByteArray) : Option (Int × Ptr) := match splitV 32 (openV t).1 with
 | [x, y, z] => (match atoiV x, ptrReadV y with
   | some k, some r => if uberT k r = t then some (k, r) else none
   | _, _ => none)
 | _ => none
theorem open_uber {k : Int} {r : Ptr} (h : uberOk k r) : openV (uberT k r) = (uberI k r, true) := by
 have e : (uberT k r).data.toList = (decS (sumOf (uberI k r))).data.toList ++ 58 :: (uberI k r).data.toList := by
  rw [uber_seal h]; simp [ByteArray.data_append]
 have hc := cutV_at e (no_colon _)
 have hs : sealV (uberI k r) = uberT k r := by unfold uberT; rw [if_pos h]
 unfold openV
 rw [hc]
 simp only [bytesL_data]
 rw [hs, if_pos ⟨trivial, same_true.2 rfl⟩]
theorem splitV_nil (c : UInt8) : splitV c ⟨#[]⟩ = [⟨#[]⟩] := rfl
theorem open_nil : openV ⟨#[]⟩ = (⟨#[]⟩, false) := by
 unfold openV
 rw [cutV_not (by simp), if_neg (by rintro ⟨h, -⟩; cases h)]
theorem uberP_iff {t : ByteArray} {k : Int} {r : Ptr} : uberP t = some (k, r) ↔ uberOk k r ∧ uberT k r = t := by
 constructor
 ·intro h
  unfold uberP at h
  split at h
  ·rename_i x y z hw
   split at h
   ·rename_i k' r' hk hr
    split at h
    ·rename_i ht
     cases h
     refine ⟨?_, ht⟩
     by_cases hok : uberOk k r
     ·exact hok
     ·exfalso
      have : t = ⟨#[]⟩ := by rw [← ht]; unfold uberT; rw [if_neg hok]
      rw [this, open_nil, splitV_nil] at hw
      simp at hw
    ·cases h
   ·cases h
  ·cases h
 ·rintro ⟨h, rfl⟩
  unfold uberP
  rw [open_uber h]
  have hw : splitV 32 (uberI k r) = [decS k, ptrT r, decS k] := by
   unfold splitV
   rw [uberI_words]
   simp only [List.map_cons, List.map_nil, bytesL_data]
  rw [hw]
  simp only
  rw [(atoi_dec (n := k) (by have := h.1; omega) (by have := h.2.1; omega)).1, ptr_back, if_pos (ptrOk_real h.2.2).1]
  simp only
  rw [if_pos trivial]
end Go.Proofs.YtfmjgoeclilcnaaGreatDoor
namespace Go.Proofs.YtfmjgoeclilcnaaGreatDoor
open Go.RowKit
theorem drop_at {l : Bs} {f i : Nat} (hi : i < l.length) (hf : f ≤ i) : l.drop f = (l.drop f).take (i - f) ++ l[i] :: l.drop (i + 1) := by
 have h1 := List.take_append_drop (i - f) (l.drop f)
 rw [List.drop_drop, show f + (i - f) = i by omega, List.drop_eq_getElem_cons hi] at h1
 exact h1.symm
theorem take_at {l : Bs} {f i : Nat} (hi : i < l.length) (hf : f ≤ i) : (l.drop f).take (i + 1 - f) = (l.drop f).take (i - f) ++ [l[i]] := by
 have h1 : (l.drop f).take (i - f + 1) = (l.drop f).take (i - f) ++ [(l.drop f)[i - f]'(by rw [List.length_drop]; omega)] := List.take_succ_eq_append_getElem (by rw [List.length_drop]; omega)
 rw [show i + 1 - f = i - f + 1 by omega, h1]
 congr 2
 rw [List.getElem_drop]
 congr 1; omega
theorem extract_list (s : ByteArray) (f i : Nat) : s.extract f i = bytesL ((s.data.toList.drop f).take (i - f)) := by
 apply ByteArray.ext
 apply Array.ext'
 rw [ByteArray.data_extract, Array.toList_extract, bytesL_list]
theorem getD_list (s : ByteArray) {i : Nat} (hi : i < s.data.toList.length) : s.data.getD i 0 = s.data.toList[i] := by
 simp only [Array.getD]
 rw [dif_pos (by simpa using hi)]
 simp
def findV (c : UInt8) (s : ByteArray) : Int := if (cutV c s).2.2 = true then ((cutV c s).1.size : Int) else -1
theorem find_not {c : UInt8} {s : ByteArray} (h : c ∉ s.data.toList) : findV c s = -1 := by
 unfold findV; rw [cutV_not h]; rfl
theorem find_at {c : UInt8} {s : ByteArray} {i : Nat} (hi : i < s.data.toList.length) (h : c ∉ s.data.toList.take i) (hc : s.data.toList[i] = c) : findV c s = i ∧ (cutV c s).2.1 = s.extract (i + 1) s.size ∧ (cutV c s).2.2 = true := by
 have e : s.data.toList = s.data.toList.take i ++ c :: s.data.toList.drop (i + 1) := by
  have := drop_at (f := 0) hi (Nat.zero_le _)
  rw [hc] at this
  simpa using this
 have h2 := cutV_at e h
 refine ⟨?_, ?_, by rw [h2]⟩
 ·unfold findV
  rw [h2]
  simp only [if_true]
  show ((s.data.toList.take i).toArray.size : Int) = i
  rw [List.size_toArray, List.length_take]
  omega
 ·rw [h2, extract_list]
  simp only
  rw [List.take_of_length_le]
  rw [List.length_drop]
  show _ ≤ s.size - (i + 1)
  rw [Array.length_toList]; exact Nat.le_refl _
def numT (s : ByteArray) : ByteArray := if s.data.getD 0 0 = 45 ∧ 0 < s.size then s.extract 1 s.size else s
def numBad (s : ByteArray) : Bool := decide ((numT s).size = 0) || decide (17 < (numT s).size) || (decide ((numT s).data.getD 0 0 = 48) && (decide (1 < (numT s).size) || decide (s.data.getD 0 0 = 45 ∧ 0 < s.size)))
def numV (s : ByteArray) : Option Int := if numBad s = true then none else (Lib.decFrom 0 (numT s).data.toList).map fun (u : Nat) => if s.data.getD 0 0 = 45 ∧ 0 < s.size then -(u : Int) else (u : Int)
theorem num_dec {n : Int} (h0 : 0 ≤ n) (h1 : n < 10 ^ 17) : numV (decS n) = some n := by
 obtain ⟨u, rfl⟩ := Int.eq_ofNat_of_zero_le h0
 have hl : (decS u).data.toList = Lib.decDigits u := by rw [decS_list]; unfold Lib.itoa; rw [if_neg (by omega), Int.toNat_natCast]
 have hlen := decD_len 16 u (by omega)
 have hsz : (decS u).size = (Lib.decDigits u).length := by rw [← hl]; rfl
 have hne := decD_ne u
 have hpos : 0 < (Lib.decDigits u).length := List.length_pos_iff.2 hne
 have hhead : (decS u).data.getD 0 0 = (Lib.decDigits u)[0] := by
  rw [getD_list _ (by rw [hl]; exact hpos)]
  simp only [hl]
 have hdig := decD_dig u (Lib.decDigits u)[0] (List.getElem_mem hpos)
 have hn45 : ¬ ((decS u).data.getD 0 0 = 45 ∧ 0 < (decS u).size) := by
  rintro ⟨h, -⟩
  rw [hhead] at h
  rw [h] at hdig
  exact absurd hdig (by decide)
 have ht : numT (decS u) = decS u := by unfold numT; rw [if_neg hn45]
 have hb : numBad (decS u) = false := by
  unfold numBad
  rw [ht]
  have a1 : decide ((decS u).size = 0) = false := by rw [decide_eq_false_iff_not]; omega
  have a2 : decide (17 < (decS u).size) = false := by rw [decide_eq_false_iff_not]; omega
  have a3 : decide ((decS u).data.getD 0 0 = 45 ∧ 0 < (decS u).size) = false := by rw [decide_eq_false_iff_not]; exact hn45
  rw [a1, a2, a3]
  by_cases h48 : (decS u).data.getD 0 0 = 48
  ·have a4 : decide (1 < (decS u).size) = false := by
    rw [decide_eq_false_iff_not, hsz]
    intro h1
    rcases Nat.eq_zero_or_pos u with rfl | hu
    ·rw [decD_small (by omega)] at h1; simp at h1
    ·obtain ⟨b, r, hb, hb2⟩ := decD_head u hu
     rw [hhead] at h48
     have : (Lib.decDigits u)[0] = b := by simp [hb]
     rw [this] at h48
     rw [h48] at hb2
     exact hb2 rfl
   rw [a4]; simp
  ·have a5 : decide ((decS u).data.getD 0 0 = 48) = false := decide_eq_false h48
   rw [a5, Bool.false_and]; rfl
 unfold numV
 rw [hb, if_neg (by decide), ht, hl, decFrom_decD]
 simp only [Option.map_some, if_neg hn45]
theorem ptrT_small {p : Ptr} : (ptrT p).size ≤ 30 := by
 unfold ptrT
 split
 ·rename_i h
  split
  ·show 1 ≤ 30; omega
  ·rename_i h0
   rcases ptrOk_cases h with rfl | hc
   ·exact absurd rfl h0
   ·rw [pointsV_three]
    have sz : ∀ (n : Int) (k : Nat), 0 ≤ n → n < 10 ^ (k + 1) → (decS n).size ≤ k + 1 := fun n k h1 h2 => by
     obtain ⟨u, rfl⟩ := Int.eq_ofNat_of_zero_le h1
     rw [decS_nat]
     exact decB_size k u (by exact_mod_cast h2)
    have s1 := sz p.at_ 2 (by omega) (by have := hc.2.1; show p.at_ < 1000; omega)
    have s2 := sz p.sum 4 (by omega) (by have := hc.2.2.2.1; show p.sum < 100000; omega)
    have s3 := sz p.birth 6 (by omega) (by have := hc.2.2.2.2.2; show p.birth < 10000000; omega)
    have h46 : (⟨#[46]⟩ : ByteArray).size = 1 := rfl
    simp only [ByteArray.size_append]
    omega
 ·exact Nat.zero_le _
theorem num_read {t x y z : ByteArray} (h : t ≠ ⟨#[45]⟩) (hw : splitV 46 t = [x, y, z]) : ptrReadV t = (match numV x, numV y, numV z with
  | some a, some b, some c => if ptrT ⟨a, b, c⟩ = t then some ⟨a, b, c⟩ else none
  | _, _, _ => none) := by
 have hk : ∀ p, ptrOkB p = true → ptrT p = t → numV x = some p.at_ ∧ numV y = some p.sum ∧ numV z = some p.birth := by
  intro p h1 h2
  have h3 : p.at_ ≠ 0 := fun h3 => h (by rw [← h2]; unfold ptrT; rw [if_pos h1, if_pos h3])
  have h4 : pointsV [p.at_, p.sum, p.birth] = t := by rw [← h2]; unfold ptrT; rw [if_pos h1, if_neg h3]
  rw [← h4, pointsV_split (by simp)] at hw
  simp only [List.map_cons, List.map_nil, List.cons.injEq, and_true] at hw
  obtain ⟨rfl, rfl, rfl⟩ := hw
  rcases ptrOk_cases h1 with rfl | hc
  ·exact absurd rfl h3
  ·exact ⟨num_dec (by omega) (by omega), num_dec (by omega) (by omega), num_dec (by omega) (by omega)⟩
 cases hr : ptrReadV t with
 | some p =>
   obtain ⟨h1, h2⟩ := ptrRead_some.1 hr
   obtain ⟨e1, e2, e3⟩ := hk p h1 h2
   rw [e1, e2, e3]
   simp only
   rw [if_pos h2]
 | none =>
   split
   ·rename_i a b c e1 e2 e3
    rw [if_neg]
    intro h2
    by_cases h1 : ptrOkB ⟨a, b, c⟩ = true
    ·rw [ptrRead_some.2 ⟨h1, h2⟩] at hr; cases hr
    ·have : t = ⟨#[]⟩ := by rw [← h2]; unfold ptrT; rw [if_neg h1]
     rw [this, splitV_nil] at hw
     simp at hw
   ·rfl
theorem read_long {t : ByteArray} (h : 30 < t.size) : ptrReadV t = none := ptrRead_none fun p _ h2 => by
 have := @ptrT_small p
 rw [h2] at this; omega
theorem read_words {t : ByteArray} (h : t ≠ ⟨#[45]⟩) (hw : (splitV 46 t).length ≠ 3) : ptrReadV t = none := ptrRead_none fun p h1 h2 => by
 have h3 : p.at_ ≠ 0 := fun h3 => h (by rw [← h2]; unfold ptrT; rw [if_pos h1, if_pos h3])
 have h4 : pointsV [p.at_, p.sum, p.birth] = t := by rw [← h2]; unfold ptrT; rw [if_pos h1, if_neg h3]
 rw [← h4, pointsV_split (by simp)] at hw
 exact hw rfl
theorem uber_spec {t x y z : ByteArray} (ho : (openV t).2 = true) (hw : splitV 32 (openV t).1 = [x, y, z]) : uberP t =
  if uberT ((numV x).getD 0) ((ptrReadV y).getD ⟨0, 0, 0⟩) = t then some ((numV x).getD 0, (ptrReadV y).getD ⟨0, 0, 0⟩) else none := by
 cases hu : uberP t with
 | some kr =>
   obtain ⟨k, r⟩ := kr
   obtain ⟨h1, rfl⟩ := uberP_iff.1 hu
   rw [open_uber h1] at hw
   have hw2 : splitV 32 (uberI k r) = [decS k, ptrT r, decS k] := by
    unfold splitV
    rw [uberI_words]
    simp only [List.map_cons, List.map_nil, bytesL_data]
   rw [hw2] at hw
   simp only [List.cons.injEq, and_true] at hw
   obtain ⟨rfl, rfl, rfl⟩ := hw
   rw [num_dec (by have := h1.1; omega) (by have := h1.2.1; omega), ptr_back, if_pos (ptrOk_real h1.2.2).1]
   simp only [Option.getD_some]
   rw [if_pos trivial]
 | none =>
   rw [if_neg]
   intro h
   by_cases hok : uberOk ((numV x).getD 0) ((ptrReadV y).getD ⟨0, 0, 0⟩)
   ·rw [uberP_iff.2 ⟨hok, h⟩] at hu; cases hu
   ·have : t = ⟨#[]⟩ := by rw [← h]; unfold uberT; rw [if_neg hok]
    rw [this, open_nil] at ho
    cases ho
theorem uber_closed {t : ByteArray} (ho : (openV t).2 = false) : uberP t = none := by
 cases hu : uberP t with
 | none => rfl
 | some kr =>
   obtain ⟨k, r⟩ := kr
   obtain ⟨h1, rfl⟩ := uberP_iff.1 hu
   rw [open_uber h1] at ho
   cases ho
theorem uber_words3 {t : ByteArray} (hw : (splitV 32 (openV t).1).length ≠ 3) : uberP t = none := by
 unfold uberP
 split
 ·rename_i h; rw [h] at hw; exact absurd rfl hw
 ·rfl
end Go.Proofs.YtfmjgoeclilcnaaGreatDoor
namespace Go.Proofs.YtfmjgoeclilcnaaGreatDoor
open Go.RowKit
theorem ptr_blank (p : Ptr) : (32 : UInt8) ∉ (ptrT p).data.toList := ptr_plain (by decide) (by decide) (by decide) p
theorem badPtr_ok {p : Ptr} (h : badPtr p = false) : ptrOkB p = true := by unfold badPtr at h; simpa using h
theorem mapT_split {m : Eight Ptr} (h : m.list.any badPtr = false) : splitV 32 (mapT m) = m.list.map ptrT := by
 unfold mapT
 rw [if_neg (by rw [h]; decide)]
 exact splitV_join (by unfold Eight.list; simp) fun w hw => by
  obtain ⟨p, -, rfl⟩ := List.mem_map.1 hw
  exact ptr_blank p
theorem map_inj : ∀ {xs ys : List Ptr}, (∀ p ∈ xs, ptrOkB p = true) → (∀ p ∈ ys, ptrOkB p = true) → xs.map ptrT = ys.map ptrT → xs = ys
 | [], [], _, _, _ => rfl
 | [], _ :: _, _, _, h => by simp at h
 | _ :: _, [], _, _, h => by simp at h
 | x :: xs, y :: ys, hx, hy, h => by
   simp only [List.map_cons, List.cons.injEq] at h
   rw [ptrT_inj (hx x (List.mem_cons_self ..)) (hy y (List.mem_cons_self ..)) h.1,
    map_inj (fun p hp => hx p (List.mem_cons_of_mem _ hp)) (fun p hp => hy p (List.mem_cons_of_mem _ hp)) h.2]
theorem eight_ext {m m' : Eight Ptr} (h : m.list = m'.list) : m = m' := by
 obtain ⟨a0, a1, a2, a3, a4, a5, a6, a7⟩ := m
 obtain ⟨b0, b1, b2, b3, b4, b5, b6, b7⟩ := m'
 simp only [Eight.list, List.cons.injEq] at h
 simp [h]
theorem any_ok {m : List Ptr} (h : m.any badPtr = false) : ∀ p ∈ m, ptrOkB p = true := fun p hp => badPtr_ok (by
 have := List.any_eq_false.1 h p hp
 simpa using this)
theorem mapT_inj {m m' : Eight Ptr} (h : m.list.any badPtr = false) (h' : m'.list.any badPtr = false) (e : mapT m = mapT m') : m = m' := by
 have := mapT_split h
 rw [e, mapT_split h'] at this
 exact (eight_ext (map_inj (any_ok h') (any_ok h) this)).symm
noncomputable def mapP (t : ByteArray) : Option (Eight Ptr) := open Classical in if h : ∃ m : Eight Ptr, m.list.any badPtr = false ∧ mapT m = t then some (Classical.choose h) else none
theorem mapP_some {t : ByteArray} {m : Eight Ptr} : mapP t = some m ↔ m.list.any badPtr = false ∧ mapT m = t := by
 unfold mapP
 split
 ·rename_i h
  have hc := Classical.choose_spec h
  constructor
  ·intro e; simp only [Option.some.injEq] at e; rw [← e]; exact hc
  ·intro e; simp only [Option.some.injEq]; exact mapT_inj hc.1 e.1 (hc.2.trans e.2.symm)
 ·rename_i h
  constructor
  ·intro e; cases e
  ·intro e; exact absurd ⟨m, e⟩ h
theorem mapP_none {t : ByteArray} (h : ∀ m : Eight Ptr, m.list.any badPtr = false → mapT m = t → False) : mapP t = none := by
 unfold mapP
 rw [dif_neg]
 rintro ⟨m, h1, h2⟩
 exact h m h1 h2
theorem mapP_len {t : ByteArray} (h : (splitV 32 t).length ≠ 8) : mapP t = none := mapP_none fun m h1 h2 => h (by
 rw [← h2, mapT_split h1, List.length_map]; rfl)
theorem mapP_bad {t w : ByteArray} (hw : w ∈ splitV 32 t) (h : ptrReadV w = none) : mapP t = none := mapP_none fun m h1 h2 => by
 rw [← h2, mapT_split h1] at hw
 obtain ⟨p, hp, rfl⟩ := List.mem_map.1 hw
 rw [ptrRead_some.2 ⟨any_ok h1 p hp, rfl⟩] at h
 cases h
theorem mapP_long {t : ByteArray} (h : 400 < t.size) : mapP t = none := mapP_none fun m h1 h2 => by
 have := mapT_size m
 rw [h2] at this; omega
theorem mapP_words {t w0 w1 w2 w3 w4 w5 w6 w7 : ByteArray} (hw : splitV 32 t = [w0, w1, w2, w3, w4, w5, w6, w7]) {p0 p1 p2 p3 p4 p5 p6 p7 : Ptr} (h0 : ptrReadV w0 = some p0) (h1 : ptrReadV w1 = some p1) (h2 : ptrReadV w2 = some p2)
  (h3 : ptrReadV w3 = some p3) (h4 : ptrReadV w4 = some p4) (h5 : ptrReadV w5 = some p5) (h6 : ptrReadV w6 = some p6) (h7 : ptrReadV w7 = some p7) : mapP t = some ⟨p0, p1, p2, p3, p4, p5, p6, p7⟩ := by
 rw [ptrRead_some] at h0 h1 h2 h3 h4 h5 h6 h7
 have hb : (Eight.list ⟨p0, p1, p2, p3, p4, p5, p6, p7⟩).any badPtr = false := by
  simp [Eight.list, badPtr, h0.1, h1.1, h2.1, h3.1, h4.1, h5.1, h6.1, h7.1]
 refine mapP_some.2 ⟨hb, ?_⟩
 unfold mapT
 rw [if_neg (by rw [hb]; decide), ← joinV_split 32 t, hw]
 simp only [Eight.list, List.map_cons, List.map_nil, h0.2, h1.2, h2.2, h3.2, h4.2, h5.2, h6.2, h7.2]
theorem ent_blank (e : Ent) : (32 : UInt8) ∉ (entT e).data.toList := by
 unfold entT
 rw [pointsV_three]
 simp only [ByteArray.data_append, Array.toList_append, List.mem_append, not_or]
 exact ⟨⟨⟨⟨no_blank _, by decide⟩, no_blank _⟩, by decide⟩, no_blank _⟩
theorem ddtT_nil : ddtT [] = ⟨#[]⟩ := by
 unfold ddtT
 split
 ·exact joinV_nil _
 ·rfl
theorem ddtT_split {es : List Ent} (h : ddtB es = true) (hn : es ≠ []) : splitV 32 (ddtT es) = es.map entT := by
 unfold ddtT
 rw [if_pos h]
 exact splitV_join (by simpa using hn) fun w hw => by
  obtain ⟨p, -, rfl⟩ := List.mem_map.1 hw
  exact ent_blank p
theorem entT_split (e : Ent) : splitV 46 (entT e) = [decS e.sum, decS e.at_, decS e.count] := pointsV_split (zs := [e.sum, e.at_, e.count]) (by simp)
theorem entT_inj {x y : Ent} (h : entT x = entT y) : x = y := by
 have h1 := entT_split x
 rw [h, entT_split y] at h1
 simp only [List.cons.injEq, and_true] at h1
 obtain ⟨a, b, c⟩ := x
 obtain ⟨a', b', c'⟩ := y
 simp only [Ent.mk.injEq]
 exact ⟨(decS_inj h1.1).symm, (decS_inj h1.2.1).symm, (decS_inj h1.2.2).symm⟩
theorem ents_inj : ∀ {xs ys : List Ent}, xs.map entT = ys.map entT → xs = ys
 | [], [], _ => rfl
 | [], _ :: _, h => by simp at h
 | _ :: _, [], h => by simp at h
 | x :: xs, y :: ys, h => by
   simp only [List.map_cons, List.cons.injEq] at h
   rw [entT_inj h.1, ents_inj h.2]
theorem split_empty (c : UInt8) : splitV c ⟨#[]⟩ = [⟨#[]⟩] := rfl
theorem entT_ne (e : Ent) : entT e ≠ ⟨#[]⟩ := fun h => by
 have := entT_split e
 rw [h, split_empty] at this
 simp at this
theorem ddtT_ne {es : List Ent} (h : ddtB es = true) (hn : es ≠ []) : ddtT es ≠ ⟨#[]⟩ := fun e => by
 have := ddtT_split h hn
 rw [e, split_empty] at this
 match es, hn with
 | x :: xs, _ =>
   simp only [List.map_cons, List.cons.injEq] at this
   exact entT_ne x this.1.symm
theorem ddtT_inj {xs ys : List Ent} (hx : ddtB xs = true) (hy : ddtB ys = true) (h : ddtT xs = ddtT ys) : xs = ys := by
 by_cases h1 : xs = []
 ·by_cases h2 : ys = []
  ·rw [h1, h2]
  ·subst h1; rw [ddtT_nil] at h; exact absurd h.symm (ddtT_ne hy h2)
 ·by_cases h2 : ys = []
  ·subst h2; rw [ddtT_nil] at h; exact absurd h (ddtT_ne hx h1)
  ·have := ddtT_split hx h1
   rw [h, ddtT_split hy h2] at this
   exact (ents_inj this).symm
noncomputable def ddtR (t : ByteArray) : Option (List Ent) := open Classical in if h : ∃ es : List Ent, ddtB es = true ∧ ddtT es = t then some (Classical.choose h) else none
theorem ddtR_some {t : ByteArray} {es : List Ent} : ddtR t = some es ↔ ddtB es = true ∧ ddtT es = t := by
 unfold ddtR
 split
 ·rename_i h
  have hc := Classical.choose_spec h
  constructor
  ·intro e; simp only [Option.some.injEq] at e; rw [← e]; exact hc
  ·intro e; simp only [Option.some.injEq]; exact ddtT_inj hc.1 e.1 (hc.2.trans e.2.symm)
 ·rename_i h
  constructor
  ·intro e; cases e
  ·intro e; exact absurd ⟨es, e⟩ h
theorem ddtR_none {t : ByteArray} (h : ∀ es : List Ent, ddtB es = true → ddtT es = t → False) : ddtR t = none := by
 unfold ddtR
 rw [dif_neg]
 rintro ⟨m, h1, h2⟩
 exact h m h1 h2
theorem ddtR_empty : ddtR ⟨#[]⟩ = some [] := ddtR_some.2 ⟨ddtB_true.2 ⟨by simp, fun i hi => by simp at hi⟩, ddtT_nil⟩
theorem ddtR_long {t : ByteArray} (h : 1000 < t.size) : ddtR t = none := ddtR_none fun es h1 h2 => by
 have h3 := (ddtB_true.1 h1).few
 have := ddtT_size h3
 rw [h2] at this; omega
theorem ddtR_words {t : ByteArray} (hn : t ≠ ⟨#[]⟩) {es : List Ent} (hw : splitV 32 t = es.map entT) : ddtR t = if ddtB es = true then some es else none := by
 have hne : es ≠ [] := fun h => by
  have := joinV_split 32 t
  rw [hw, h, List.map_nil, joinV_nil] at this
  exact hn this.symm
 split
 ·rename_i h
  refine ddtR_some.2 ⟨h, ?_⟩
  unfold ddtT
  rw [if_pos h, ← hw, joinV_split]
 ·rename_i h
  refine ddtR_none fun es' h1 h2 => h ?_
  have hne' : es' ≠ [] := fun e => by subst e; rw [ddtT_nil] at h2; exact hn h2.symm
  have := ddtT_split h1 hne'
  rw [h2, hw] at this
  rwa [ents_inj this]
theorem ddtR_is {t : ByteArray} (hn : t ≠ ⟨#[]⟩) {es : List Ent} (h : ddtR t = some es) : splitV 32 t = es.map entT ∧ ddtB es = true := by
 obtain ⟨h1, h2⟩ := ddtR_some.1 h
 have hne : es ≠ [] := fun e => by subst e; rw [ddtT_nil] at h2; exact hn h2.symm
 rw [← h2]
 exact ⟨ddtT_split h1 hne, h1⟩
end Go.Proofs.YtfmjgoeclilcnaaGreatDoor
namespace Go.Proofs.YtfmjgoeclilcnaaGreatDoor
open Go.RowKit
theorem ent_nums {e : Ent} (h : entB e = true) : (0 ≤ e.sum ∧ e.sum < 10 ^ 17) ∧ (0 ≤ e.at_ ∧ e.at_ < 10 ^ 17) ∧ (0 ≤ e.count ∧ e.count < 10 ^ 17) := by
 obtain ⟨⟨h1, h2⟩, ⟨h3, h4⟩, h5, h6⟩ := entB_true h
 omega
theorem thr_ent {e : Ent} (h : entB e = true) : thr (entT e) = some (e.sum, e.at_, e.count) := by
 obtain ⟨⟨a1, a2⟩, ⟨b1, b2⟩, c1, c2⟩ := ent_nums h
 unfold thr
 rw [entT_split]
 simp only [(atoi_dec a1 a2).1, (atoi_dec b1 b2).1, (atoi_dec c1 c2).1]
def exact3 (w : ByteArray) (e : Ent) : Prop := thr w = some (e.sum, e.at_, e.count) ∧ entT e = w
theorem bad_word {t w : ByteArray} (hn : t ≠ ⟨#[]⟩) (hw : w ∈ splitV 32 t) (h : ∀ e : Ent, ¬ exact3 w e) : ddtR t = none := by
 cases hr : ddtR t with
 | none => rfl
 | some es =>
   obtain ⟨h1, h2⟩ := ddtR_is hn hr
   rw [h1] at hw
   obtain ⟨e, he, rfl⟩ := List.mem_map.1 hw
   exact absurd ⟨thr_ent (ddtP_ent h2 he), rfl⟩ (h e)
def spec3 (w : ByteArray) : Option Ent := match splitV 46 w with
 | [x, y, z] => some ⟨(numV x).getD 0, (numV y).getD 0, (numV z).getD 0⟩
 | _ => none
theorem spec3_ent {e : Ent} (h : entB e = true) : spec3 (entT e) = some e := by
 obtain ⟨⟨a1, a2⟩, ⟨b1, b2⟩, c1, c2⟩ := ent_nums h
 unfold spec3
 rw [entT_split]
 simp only [num_dec a1 a2, num_dec b1 b2, num_dec c1 c2, Option.getD_some]
theorem spec3_none {t w : ByteArray} (hn : t ≠ ⟨#[]⟩) (hw : w ∈ splitV 32 t) (h : spec3 w = none) : ddtR t = none := by
 cases hr : ddtR t with
 | none => rfl
 | some es =>
   obtain ⟨h1, h2⟩ := ddtR_is hn hr
   rw [h1] at hw
   obtain ⟨e, he, rfl⟩ := List.mem_map.1 hw
   rw [spec3_ent (ddtP_ent h2 he)] at h
   cases h
theorem spec3_all {t : ByteArray} (hn : t ≠ ⟨#[]⟩) {es : List Ent} (h : (splitV 32 t).map spec3 = es.map some) : ddtR t = if ddtB es = true ∧ ddtT es = t then some es else none := by
 split
 ·rename_i hc
  exact ddtR_some.2 hc
 ·rename_i hc
  cases hr : ddtR t with
  | none => rfl
  | some fs =>
    refine absurd ?_ hc
    obtain ⟨h1, h2⟩ := ddtR_is hn hr
    have h3 := (ddtR_some.1 hr).2
    have : es = fs := by
     rw [h1, List.map_map] at h
     have : fs.map (spec3 ∘ entT) = fs.map some := List.map_congr_left fun e he => spec3_ent (ddtP_ent h2 he)
     rw [this] at h
     exact ((List.map_inj_right fun a b hab => Option.some.inj hab).1 h).symm
    rw [this]
    exact ⟨h2, h3⟩
end Go.Proofs.YtfmjgoeclilcnaaGreatDoor
namespace Go.Proofs.YtfmjgoeclilcnaaGreatDoor
open Go.RowKit
def setLn (s : CSet) : ByteArray := s.name ++ ⟨#[32]⟩ ++ decS s.kind ++ ⟨#[32]⟩ ++ (if s.from_ = ⟨#[]⟩ then ⟨#[45]⟩ else s.from_) ++ ⟨#[32]⟩ ++ ptrT s.home
def prtLn (p : Ptr) : ByteArray := ⟨#[46, 32]⟩ ++ ptrT p
theorem fromT_eq (s : ByteArray) : fromT s = if s = ⟨#[]⟩ then ⟨#[45]⟩ else s := by
 unfold fromT
 by_cases h : s = ⟨#[]⟩
 ·rw [if_pos (same_true.2 h), if_pos h]
 ·rw [if_neg (by rw [same_false.2 h]; decide), if_neg h]
theorem setL_ln (s : CSet) : setL s = ⟨#[10]⟩ ++ setLn s := by
 unfold setL setLn
 rw [fromT_eq]
 simp only [ByteArray.append_assoc]
theorem partL_ln (p : Ptr) : partL p = ⟨#[10]⟩ ++ prtLn p := by
 unfold partL prtLn
 rw [← ByteArray.append_assoc]
 rfl
def rootLns (cs : List CSet) (ps : List Ptr) : List ByteArray := cs.map setLn ++ ps.map prtLn
theorem fold_join (o : List ByteArray) (ho : o ≠ []) : ∀ ls : List ByteArray, ls.foldl (fun a l => a ++ (⟨#[10]⟩ ++ l)) (joinV ⟨#[10]⟩ o) = joinV ⟨#[10]⟩ (o ++ ls)
 | [] => by simp
 | l :: ls => by
   have h := fold_join (o ++ [l]) (by simp) ls
   rw [joinV_snoc _ _ _ ho] at h
   rw [List.foldl_cons, ← ByteArray.append_assoc, h, List.append_assoc]
   rfl
theorem root_join (cs : List CSet) (ps : List Ptr) : rootPs (rootS cs) ps = joinV ⟨#[10]⟩ (root0 :: rootLns cs ps) := by
 have h := fold_join [root0] (by simp) (rootLns cs ps)
 rw [joinV_one] at h
 rw [List.singleton_append] at h
 rw [← h]
 have e1 : (fun (o : ByteArray) (s : CSet) => o ++ setL s) = fun o s => o ++ (⟨#[10]⟩ ++ setLn s) := by funext o s; rw [setL_ln]
 have e2 : (fun (o : ByteArray) (p : Ptr) => o ++ partL p) = fun o p => o ++ (⟨#[10]⟩ ++ prtLn p) := by funext o p; rw [partL_ln]
 unfold rootPs rootS rootLns
 rw [e1, e2, List.foldl_append, List.foldl_map, List.foldl_map]
theorem name_not {c : UInt8} (h : c.toNat < 97) {s : ByteArray} (hs : nameB s = true) : c ∉ s.data.toList := by
 unfold nameB at hs
 rw [Bool.and_eq_true] at hs
 intro hm
 have := List.all_eq_true.1 hs.2 c hm
 unfold isLow at this
 simp only [Bool.and_eq_true, decide_eq_true_eq] at this
 omega
theorem from_not {c : UInt8} (h : c.toNat < 97) (h2 : c ≠ 45) {s : ByteArray} (hs : s = ⟨#[]⟩ ∨ nameB s = true) : c ∉ (if s = ⟨#[]⟩ then (⟨#[45]⟩ : ByteArray) else s).data.toList := by
 split
 ·simpa using h2
 ·rename_i hx
  exact name_not h (hs.resolve_left hx)
theorem setLn_not {s : CSet} (h : csetB s = true) : (10 : UInt8) ∉ (setLn s).data.toList := by
 obtain ⟨h1, h2, h3, h4, -⟩ := csetB_parts h
 unfold setLn
 simp only [ByteArray.data_append, Array.toList_append, List.mem_append, not_or]
 exact ⟨⟨⟨⟨⟨⟨name_not (by decide) h1, by decide⟩, itoa_not (by decide) (by decide) _⟩, by decide⟩, from_not (by decide) (by decide) h2⟩, by decide⟩, ptr_plain (by decide) (by decide) (by decide) _⟩
theorem prtLn_not (p : Ptr) : (10 : UInt8) ∉ (prtLn p).data.toList := by
 unfold prtLn
 simp only [ByteArray.data_append, Array.toList_append, List.mem_append, not_or]
 exact ⟨by decide, ptr_plain (by decide) (by decide) (by decide) _⟩
theorem setLn_words {s : CSet} (h : csetB s = true) : splitV 32 (setLn s) = [s.name, decS s.kind, (if s.from_ = ⟨#[]⟩ then ⟨#[45]⟩ else s.from_), ptrT s.home] := by
 obtain ⟨h1, h2, h3, h4, -⟩ := csetB_parts h
 have e : setLn s = joinV ⟨#[32]⟩ [s.name, decS s.kind, (if s.from_ = ⟨#[]⟩ then ⟨#[45]⟩ else s.from_), ptrT s.home] := by
  have e1 := joinV_snoc ⟨#[32]⟩ [s.name, decS s.kind, (if s.from_ = ⟨#[]⟩ then ⟨#[45]⟩ else s.from_)] (ptrT s.home) (by simp)
  rw [joinV_three] at e1
  exact e1.symm
 rw [e]
 refine splitV_join (by simp) fun w hw => ?_
 simp only [List.mem_cons, List.not_mem_nil, or_false] at hw
 rcases hw with rfl | rfl | rfl | rfl
 ·exact name_not (by decide) h1
 ·exact no_blank _
 ·exact from_not (by decide) (by decide) h2
 ·exact ptr_blank _
theorem prtLn_words (p : Ptr) : splitV 32 (prtLn p) = [⟨#[46]⟩, ptrT p] := by
 have e : prtLn p = joinV ⟨#[32]⟩ [⟨#[46]⟩, ptrT p] := by
  have e1 := joinV_snoc ⟨#[32]⟩ [(⟨#[46]⟩ : ByteArray)] (ptrT p) (by simp)
  rw [joinV_one] at e1
  rw [show [(⟨#[46]⟩ : ByteArray)] ++ [ptrT p] = [⟨#[46]⟩, ptrT p] from rfl] at e1
  rw [e1]
  rfl
 rw [e]
 refine splitV_join (by simp) fun w hw => ?_
 simp only [List.mem_cons, List.not_mem_nil, or_false] at hw
 rcases hw with rfl | rfl
 ·decide
 ·exact ptr_blank _
structure RootOk (cs : List CSet) (ps : List Ptr) : Prop where
 sets : ∀ s ∈ cs, csetB s = true ∧ s.map = Eight.rep Ptr.zero ∧ s.dirty = false
 parts : ∀ p ∈ ps, realB p = true
 few : ps.length ≤ 8
 book : bookB (frameOf cs) = true
theorem RootOk.no {cs : List CSet} {ps : List Ptr} (h : RootOk cs ps) : cs.any csetBad = false ∧ ps.any partBad = false :=
 ⟨List.any_eq_false.2 fun s hs => by unfold csetBad; rw [(h.sets s hs).1]; simp, List.any_eq_false.2 fun p hp => by unfold partBad; rw [h.parts p hp]; simp⟩
theorem RootOk.text {cs : List CSet} {ps : List Ptr} (h : RootOk cs ps) : rootT cs ps = joinV ⟨#[10]⟩ (root0 :: rootLns cs ps) := by
 unfold rootT
 rw [if_neg (by rw [h.no.1]; decide), if_neg (by rw [h.no.2]; decide), root_join]
theorem RootOk.lines {cs : List CSet} {ps : List Ptr} (h : RootOk cs ps) : splitV 10 (rootT cs ps) = root0 :: rootLns cs ps := by
 rw [h.text]
 refine splitV_join (by simp) fun w hw => ?_
 rcases List.mem_cons.1 hw with rfl | hw
 ·decide
 ·rcases List.mem_append.1 hw with hw | hw
  ·obtain ⟨s, hs, rfl⟩ := List.mem_map.1 hw
   exact setLn_not (h.sets s hs).1
  ·obtain ⟨p, -, rfl⟩ := List.mem_map.1 hw
   exact prtLn_not p
end Go.Proofs.YtfmjgoeclilcnaaGreatDoor
namespace Go.Proofs.YtfmjgoeclilcnaaGreatDoor
open Go.RowKit
def dash (s : ByteArray) : ByteArray := if s = ⟨#[45]⟩ then ⟨#[]⟩ else s
def csetMk (a : ByteArray) (k : Int) (f : ByteArray) (p : Ptr) : CSet := ⟨a, k, dash f, Eight.rep Ptr.zero, p, false⟩
noncomputable def lineI (l : ByteArray) : Option (CSet ⊕ Ptr) := match splitV 32 l with
 | [a, b] => if a = ⟨#[46]⟩ then (ptrReadV b).map .inr else none
 | [a, b, c, d] => (match ptrReadV d, atoiV b with
   | some p, some k => some (.inl (csetMk a k c p))
   | _, _ => none)
 | _ => none
noncomputable def lineS (l : ByteArray) : Option (CSet ⊕ Ptr) := match splitV 32 l with
 | [a, b] => if a = ⟨#[46]⟩ then (ptrReadV b).map .inr else none
 | [a, b, c, d] => (match ptrReadV d, numV b with
   | some p, some k => some (.inl (csetMk a k c p))
   | _, _ => none)
 | _ => none
structure Reads (f : ByteArray → Option (CSet ⊕ Ptr)) : Prop where
 set : ∀ s, csetB s = true → s.map = Eight.rep Ptr.zero → s.dirty = false → f (setLn s) = some (.inl s)
 part : ∀ p, realB p = true → f (prtLn p) = some (.inr p)
 shape : ∀ l s, f l = some (.inl s) → s.map = Eight.rep Ptr.zero ∧ s.dirty = false
theorem dash_from {s : ByteArray} (h : s = ⟨#[]⟩ ∨ nameB s = true) : dash (if s = ⟨#[]⟩ then ⟨#[45]⟩ else s) = s := by
 by_cases he : s = ⟨#[]⟩
 ·subst he; rfl
 ·rw [if_neg he]
  unfold dash
  rw [if_neg]
  intro h45
  have hn := h.resolve_left he
  rw [h45] at hn
  exact absurd hn (by decide)
theorem set_eta {s : CSet} (h1 : s.map = Eight.rep Ptr.zero) (h2 : s.dirty = false) (h3 : s.from_ = ⟨#[]⟩ ∨ nameB s.from_ = true) : csetMk s.name s.kind (if s.from_ = ⟨#[]⟩ then ⟨#[45]⟩ else s.from_) s.home = s := by
 unfold csetMk
 rw [dash_from h3]
 obtain ⟨a, b, c, d, e, f⟩ := s
 simp only at h1 h2
 rw [h1, h2]
theorem reads_I : Reads lineI where
 set s h h1 h2 := by
  obtain ⟨c1, c2, c3, c4, -⟩ := csetB_parts h
  unfold lineI
  rw [setLn_words h]
  simp only [ptrRead_some.2 ⟨c4, rfl⟩, (atoi_dec (n := s.kind) (by omega) (by omega)).1]
  rw [set_eta h1 h2 c2]
 part p h := by
  unfold lineI
  rw [prtLn_words]
  simp only [if_true, ptrRead_some.2 ⟨(ptrOk_real h).1, rfl⟩, Option.map_some]
 shape l s h := by
  unfold lineI at h
  split at h
  ·split at h
   ·cases hp : ptrReadV _ with
    | none => rw [hp] at h; cases h
    | some p => rw [hp] at h; cases h
   ·cases h
  ·split at h
   ·simp only [Option.some.injEq, Sum.inl.injEq] at h
    subst h; exact ⟨rfl, rfl⟩
   ·cases h
  ·cases h
theorem reads_S : Reads lineS where
 set s h h1 h2 := by
  obtain ⟨c1, c2, c3, c4, -⟩ := csetB_parts h
  unfold lineS
  rw [setLn_words h]
  simp only [ptrRead_some.2 ⟨c4, rfl⟩, num_dec (n := s.kind) (by omega) (by omega)]
  rw [set_eta h1 h2 c2]
 part p h := by
  unfold lineS
  rw [prtLn_words]
  simp only [if_true, ptrRead_some.2 ⟨(ptrOk_real h).1, rfl⟩, Option.map_some]
 shape l s h := by
  unfold lineS at h
  split at h
  ·split at h
   ·cases hp : ptrReadV _ with
    | none => rw [hp] at h; cases h
    | some p => rw [hp] at h; cases h
   ·cases h
  ·split at h
   ·simp only [Option.some.injEq, Sum.inl.injEq] at h
    subst h; exact ⟨rfl, rfl⟩
   ·cases h
  ·cases h
noncomputable def rdLines (f : ByteArray → Option (CSet ⊕ Ptr)) : List ByteArray → List CSet × List Ptr → Option (List CSet × List Ptr)
 | [], a => some a
 | l :: ls, a => match f l with
   | some (.inl s) => rdLines f ls (a.1 ++ [s], a.2)
   | some (.inr p) => rdLines f ls (a.1, a.2 ++ [p])
   | none => none
theorem rd_parts {f : ByteArray → Option (CSet ⊕ Ptr)} (hf : Reads f) : ∀ (ps : List Ptr) (a : List CSet × List Ptr), (∀ p ∈ ps, realB p = true) → rdLines f (ps.map prtLn) a = some (a.1, a.2 ++ ps)
 | [], a, _ => by simp [rdLines]
 | p :: ps, a, h => by
   rw [List.map_cons]
   unfold rdLines
   rw [hf.part p (h p (List.mem_cons_self ..))]
   simp only
   rw [rd_parts hf ps _ fun q hq => h q (List.mem_cons_of_mem _ hq)]
   simp
theorem rd_sets {f : ByteArray → Option (CSet ⊕ Ptr)} (hf : Reads f) (r : List ByteArray) : ∀ (cs : List CSet) (a : List CSet × List Ptr), (∀ s ∈ cs, csetB s = true ∧ s.map = Eight.rep Ptr.zero ∧ s.dirty = false) → rdLines f (cs.map setLn ++ r) a = rdLines f r (a.1 ++ cs, a.2)
 | [], a, _ => by simp
 | s :: cs, a, h => by
   rw [List.map_cons, List.cons_append]
   have h1 := h s (List.mem_cons_self ..)
   rw [rdLines, hf.set s h1.1 h1.2.1 h1.2.2]
   simp only
   rw [rd_sets hf r cs _ fun q hq => h q (List.mem_cons_of_mem _ hq)]
   simp
theorem rd_canon {f : ByteArray → Option (CSet ⊕ Ptr)} (hf : Reads f) {cs : List CSet} {ps : List Ptr} (h : RootOk cs ps) : rdLines f (rootLns cs ps) ([], []) = some (cs, ps) := by
 unfold rootLns
 rw [rd_sets hf _ cs _ h.sets, rd_parts hf ps _ h.parts]
 simp
theorem rd_shape {f : ByteArray → Option (CSet ⊕ Ptr)} (hf : Reads f) : ∀ (ls : List ByteArray) (a b : List CSet × List Ptr), rdLines f ls a = some b → (∀ s ∈ a.1, s.map = Eight.rep Ptr.zero ∧ s.dirty = false) → ∀ s ∈ b.1, s.map = Eight.rep Ptr.zero ∧ s.dirty = false
 | [], a, b, h, ha => by simp only [rdLines, Option.some.injEq] at h; subst h; exact ha
 | l :: ls, a, b, h, ha => by
   unfold rdLines at h
   split at h
   ·rename_i s hs
    refine rd_shape hf ls _ b h fun q hq => ?_
    rcases List.mem_append.1 hq with hq | hq
    ·exact ha q hq
    ·simp only [List.mem_singleton] at hq
     subst hq; exact hf.shape l _ hs
   ·exact rd_shape hf ls _ b h ha
   ·cases h
theorem rootT_inj {cs cs' : List CSet} {ps ps' : List Ptr} (h : RootOk cs ps) (h' : RootOk cs' ps') (e : rootT cs ps = rootT cs' ps') : cs = cs' ∧ ps = ps' := by
 have h1 := h.lines
 rw [e, h'.lines] at h1
 simp only [List.cons.injEq, true_and] at h1
 have h2 := rd_canon reads_I h
 rw [← h1, rd_canon reads_I h'] at h2
 simp only [Option.some.injEq, Prod.mk.injEq] at h2
 exact ⟨h2.1.symm, h2.2.symm⟩
noncomputable def rootR (t : ByteArray) : Option (List CSet × List Ptr) := open Classical in if h : ∃ r : List CSet × List Ptr, RootOk r.1 r.2 ∧ rootT r.1 r.2 = t then some (Classical.choose h) else none
theorem rootR_some {t : ByteArray} {cs : List CSet} {ps : List Ptr} : rootR t = some (cs, ps) ↔ RootOk cs ps ∧ rootT cs ps = t := by
 unfold rootR
 split
 ·rename_i h
  have hc := Classical.choose_spec h
  constructor
  ·intro e; simp only [Option.some.injEq] at e; rw [e] at hc; exact hc
  ·intro e
   have := rootT_inj hc.1 e.1 (hc.2.trans e.2.symm)
   simp only [Option.some.injEq]
   exact Prod.ext this.1 this.2
 ·rename_i h
  constructor
  ·intro e; cases e
  ·intro e; exact absurd ⟨(cs, ps), e⟩ h
theorem rootR_none {t : ByteArray} (h : ∀ cs ps, RootOk cs ps → rootT cs ps = t → False) : rootR t = none := by
 unfold rootR
 rw [dif_neg]
 rintro ⟨⟨cs, ps⟩, h1, h2⟩
 exact h cs ps h1 h2
theorem rootR_long {t : ByteArray} (h : 420 < t.size) : rootR t = none := rootR_none fun cs ps h1 h2 => by
 have h3 := rootPs_size ps (rootS cs)
 have h4 := rootS_size cs fun s hs => (h1.sets s hs).1
 have h5 := (bookB_true.1 h1.book).few
 rw [frame_len] at h5
 have h6 := h1.few
 have h7 : rootT cs ps = rootPs (rootS cs) ps := by
  unfold rootT
  rw [if_neg (by rw [h1.no.1]; decide), if_neg (by rw [h1.no.2]; decide)]
 rw [← h2, h7] at h
 omega
theorem rootR_rd {f : ByteArray → Option (CSet ⊕ Ptr)} (hf : Reads f) {t l0 : ByteArray} {ls : List ByteArray} (hl : splitV 10 t = l0 :: ls) :
  rootR t = match rdLines f ls ([], []) with
   | some r => @ite _ (r.2.length ≤ 8 ∧ bookB (frameOf r.1) = true ∧ rootT r.1 r.2 = t) (Classical.propDecidable _) (some r) none
   | none => none := by
 cases hr : rootR t with
 | some q =>
   obtain ⟨cs, ps⟩ := q
   obtain ⟨h1, h2⟩ := rootR_some.1 hr
   have h3 := h1.lines
   rw [h2, hl] at h3
   simp only [List.cons.injEq] at h3
   rw [h3.2, rd_canon hf h1]
   simp only
   rw [if_pos ⟨h1.few, h1.book, h2⟩]
 | none =>
   cases hd : rdLines f ls ([], []) with
   | none => rfl
   | some q =>
     obtain ⟨cs, ps⟩ := q
     simp only
     rw [if_neg]
     rintro ⟨h1, h2, h3⟩
     have hsh := rd_shape hf ls _ _ hd (by simp)
     have hno : cs.any csetBad = false ∧ ps.any partBad = false := by
      by_cases hb : cs.any csetBad = true
      ·have : t = ⟨#[]⟩ := by rw [← h3]; unfold rootT; rw [if_pos hb]
       rw [this, split_empty] at hl
       simp only [List.cons.injEq] at hl
       rw [← hl.2] at hd
       simp only [rdLines, Option.some.injEq, Prod.mk.injEq] at hd
       rw [← hd.1] at hb
       simp at hb
      ·have hb : cs.any csetBad = false := by simpa using hb
       by_cases hb2 : ps.any partBad = true
       ·have : t = ⟨#[]⟩ := by rw [← h3]; unfold rootT; rw [if_neg (by rw [hb]; decide), if_pos hb2]
        rw [this, split_empty] at hl
        simp only [List.cons.injEq] at hl
        rw [← hl.2] at hd
        simp only [rdLines, Option.some.injEq, Prod.mk.injEq] at hd
        rw [← hd.2] at hb2
        simp at hb2
       ·exact ⟨hb, by simpa using hb2⟩
     have hok : RootOk cs ps := ⟨fun s hs => ⟨by
      have := List.any_eq_false.1 hno.1 s hs
      unfold csetBad at this; simpa using this, hsh s hs⟩, fun p hp => by
      have := List.any_eq_false.1 hno.2 p hp
      unfold partBad at this; simpa using this, h1, h2⟩
     rw [rootR_some.2 ⟨hok, h3⟩] at hr
     cases hr
end Go.Proofs.YtfmjgoeclilcnaaGreatDoor
namespace Go.Proofs.YtfmjgoeclilcnaaGreatDoor
open Go.RowKit
def AscI (xs : List Int) : Prop := xs.Pairwise (· < ·)
theorem asc_head {x : Int} {xs : List Int} (h : AscI (x :: xs)) : ∀ y ∈ xs, x < y := (List.pairwise_cons.1 h).1
theorem asc_tail {x : Int} {xs : List Int} (h : AscI (x :: xs)) : AscI xs := (List.pairwise_cons.1 h).2
theorem asc_ext : ∀ {xs ys : List Int}, AscI xs → AscI ys → (∀ z, z ∈ xs ↔ z ∈ ys) → xs = ys
 | [], [], _, _, _ => rfl
 | [], y :: ys, _, _, h => absurd ((h y).2 (List.mem_cons_self ..)) (by simp)
 | x :: xs, [], _, _, h => absurd ((h x).1 (List.mem_cons_self ..)) (by simp)
 | x :: xs, y :: ys, hx, hy, h => by
   have h1 := asc_head hx
   have h2 := asc_head hy
   have e : x = y := by
    rcases List.mem_cons.1 ((h x).1 (List.mem_cons_self ..)) with e | e
    ·exact e
    ·rcases List.mem_cons.1 ((h y).2 (List.mem_cons_self ..)) with e2 | e2
     ·exact e2.symm
     ·have := h1 y e2; have := h2 x e; omega
   subst e
   rw [asc_ext (asc_tail hx) (asc_tail hy) fun z => ⟨fun hz => ?_, fun hz => ?_⟩]
   ·rcases List.mem_cons.1 ((h z).1 (List.mem_cons_of_mem _ hz)) with e | e
    ·subst e; have := h1 z hz; omega
    ·exact e
   ·rcases List.mem_cons.1 ((h z).2 (List.mem_cons_of_mem _ hz)) with e | e
    ·subst e; have := h2 z hz; omega
    ·exact e
theorem compUp_facts (d : Array Int) (hs : ∀ i j, i < j → j < d.size → d[i]! ≤ d[j]!) : ∀ m, m ≤ d.size →
  (∀ x, x ∈ Lib.compactUpTo d m ↔ ∃ j, j < m ∧ d[j]! = x) ∧ AscI (Lib.compactUpTo d m) ∧ (∀ x ∈ Lib.compactUpTo d m, x ≤ d[m - 1]!)
 | 0, _ => ⟨fun x => by simp [Lib.compactUpTo], by simp [Lib.compactUpTo, AscI], by simp [Lib.compactUpTo]⟩
 | m + 1, hm => by
   obtain ⟨i1, i2, i3⟩ := compUp_facts d hs m (by omega)
   rw [Lib.compactUpTo_succ]
   have hle : ∀ x ∈ Lib.compactUpTo d m, x ≤ d[m]! := fun x hx => by
    obtain ⟨j, hj, rfl⟩ := (i1 x).1 hx
    exact hs j m hj (by omega)
   by_cases hk : Lib.keeps d m = true
   ·rw [if_pos hk]
    have hlt : ∀ x ∈ Lib.compactUpTo d m, x < d[m]! := fun x hx => by
     rcases Nat.eq_zero_or_pos m with h0 | h0
     ·subst h0; simp [Lib.compactUpTo] at hx
     ·have h1 := i3 x hx
      have h2 := hs (m - 1) m (by omega) (by omega)
      have h3 : d[m]! ≠ d[m - 1]! := by
       unfold Lib.keeps at hk
       simp only [Bool.or_eq_true, beq_iff_eq, bne_iff_ne, ne_eq, decide_eq_true_eq] at hk
       rcases hk with hk | hk
       ·omega
       ·exact hk
      omega
    refine ⟨fun x => ?_, ?_, ?_⟩
    ·rw [List.mem_append, i1, List.mem_singleton]
     constructor
     ·rintro (⟨j, hj, rfl⟩ | rfl)
      ·exact ⟨j, by omega, rfl⟩
      ·exact ⟨m, by omega, rfl⟩
     ·rintro ⟨j, hj, rfl⟩
      rcases Nat.lt_succ_iff_lt_or_eq.1 hj with h | rfl
      ·exact .inl ⟨j, h, rfl⟩
      ·exact .inr rfl
    ·exact List.pairwise_append.2 ⟨i2, by simp, fun x hx y hy => by rw [List.mem_singleton.1 hy]; exact hlt x hx⟩
    ·intro x hx
     rcases List.mem_append.1 hx with h | h
     ·exact hle x h
     ·rw [List.mem_singleton.1 h]; exact Int.le_refl _
   ·rw [if_neg hk, List.append_nil]
    have h0 : m ≠ 0 := fun h => hk (by subst h; exact Lib.keeps_lt_one d 0 (by omega))
    have h3 : d[m]! = d[m - 1]! := by
     unfold Lib.keeps at hk
     simp only [Bool.or_eq_true, beq_iff_eq, bne_iff_ne, ne_eq, decide_eq_true_eq, not_or, Decidable.not_not] at hk
     exact hk.2
    refine ⟨fun x => ?_, i2, fun x hx => hle x hx⟩
    rw [i1]
    constructor
    ·rintro ⟨j, hj, rfl⟩; exact ⟨j, by omega, rfl⟩
    ·rintro ⟨j, hj, rfl⟩
     rcases Nat.lt_succ_iff_lt_or_eq.1 hj with h | rfl
     ·exact ⟨j, h, rfl⟩
     ·exact ⟨j - 1, by omega, h3.symm⟩
def sortI (zs : List Int) : List Int := zs.mergeSort fun x y => decide (x ≤ y)
theorem sortI_len (zs : List Int) : (sortI zs).length = zs.length := by unfold sortI; exact List.length_mergeSort _
theorem sortI_mem (zs : List Int) (x : Int) : x ∈ sortI zs ↔ x ∈ zs := by unfold sortI; exact List.mem_mergeSort
theorem sortI_le (zs : List Int) : (sortI zs).Pairwise (· ≤ ·) := by
 have h := List.pairwise_mergeSort (le := fun x y : Int => decide (x ≤ y)) (fun a b c h1 h2 => by simp at *; omega) (fun a b => by simp; omega) zs
 exact h.imp (by simp)
theorem compact_sorted (zs : List Int) : AscI (Lib.compact (sortI zs)) ∧ ∀ x, x ∈ Lib.compact (sortI zs) ↔ x ∈ zs := by
 have hle := sortI_le zs
 obtain ⟨h1, h2, -⟩ := compUp_facts (sortI zs).toArray (fun i j hij hj => by
  rw [List.size_toArray] at hj
  have := List.pairwise_iff_getElem.1 hle i j (by omega) hj hij
  simpa [show i < (sortI zs).length by omega, hj] using this) (sortI zs).length (by simp)
 refine ⟨h2, fun x => ?_⟩
 unfold Lib.compact
 rw [h1, ← sortI_mem zs x]
 constructor
 ·rintro ⟨j, hj, rfl⟩
  have : (sortI zs).toArray[j]! = (sortI zs)[j] := by simp [hj]
  rw [this]; exact List.getElem_mem _
 ·intro hx
  obtain ⟨j, hj, rfl⟩ := List.getElem_of_mem hx
  exact ⟨j, hj, by simp [hj]⟩
theorem compact_len (zs : List Int) : (Lib.compact zs).length ≤ zs.length := by
 unfold Lib.compact Lib.compactUpTo
 rw [List.length_map]
 exact Nat.le_trans (List.length_filter_le _ _) (by simp)
def insP (xs : List Int) (x : Int) : List Int := xs.takeWhile (fun y => decide (y < x)) ++ x :: xs.dropWhile (fun y => decide (y < x))
def addP (xs : List Int) (x : Int) : List Int := if x < 13 ∨ x ∈ xs then xs else insP xs x
theorem insP_asc : ∀ {xs : List Int} {x : Int}, AscI xs → x ∉ xs → AscI (insP xs x) ∧ ∀ z, z ∈ insP xs x ↔ z = x ∨ z ∈ xs
 | [], x, _, _ => ⟨by simp [insP, AscI], by simp [insP]⟩
 | y :: ys, x, h, hn => by
   have hm : ∀ z, z ∈ insP (y :: ys) x ↔ z = x ∨ z ∈ y :: ys := fun z => by
    unfold insP
    conv => rhs; rw [← List.takeWhile_append_dropWhile (p := fun y => decide (y < x)) (l := y :: ys)]
    simp only [List.mem_append, List.mem_cons]
    constructor
    ·rintro (h | h | h)
     ·exact .inr (.inl h)
     ·exact .inl h
     ·exact .inr (.inr h)
    ·rintro (h | h | h)
     ·exact .inr (.inl h)
     ·exact .inl h
     ·exact .inr (.inr h)
   refine ⟨?_, hm⟩
   by_cases hc : y < x
   ·have e : insP (y :: ys) x = y :: insP ys x := by unfold insP; simp [hc]
    obtain ⟨h1, h2⟩ := insP_asc (asc_tail h) (fun h => hn (List.mem_cons_of_mem _ h))
    rw [e]
    refine List.pairwise_cons.2 ⟨fun z hz => ?_, h1⟩
    rcases (h2 z).1 hz with rfl | hz
    ·exact hc
    ·exact asc_head h z hz
   ·have e : insP (y :: ys) x = x :: y :: ys := by unfold insP; simp [hc]
    rw [e]
    have hxy : x ≠ y := fun e => hn (by rw [e]; exact List.mem_cons_self ..)
    refine List.pairwise_cons.2 ⟨fun z hz => ?_, h⟩
    rcases List.mem_cons.1 hz with rfl | hz
    ·omega
    ·have := asc_head h z hz; omega
theorem addP_asc {xs : List Int} {x : Int} (h : AscI xs) : AscI (addP xs x) ∧ ∀ z, z ∈ addP xs x ↔ (z = x ∧ 13 ≤ x) ∨ z ∈ xs := by
 unfold addP
 split
 ·rename_i hc
  refine ⟨h, fun z => ⟨.inr, ?_⟩⟩
  rintro (⟨rfl, h1⟩ | h1)
  ·rcases hc with hc | hc
   ·omega
   ·exact hc
  ·exact h1
 ·rename_i hc
  obtain ⟨h1, h2⟩ := insP_asc h (fun h => hc (.inr h))
  refine ⟨h1, fun z => ?_⟩
  rw [h2]
  constructor
  ·rintro (rfl | h)
   ·exact .inl ⟨rfl, Int.not_lt.1 fun h => hc (.inl h)⟩
   ·exact .inr h
  ·rintro (⟨h, -⟩ | h)
   ·exact .inl h
   ·exact .inr h
theorem foldP_asc : ∀ (ls : List Int) {xs : List Int}, AscI xs → AscI (ls.foldl addP xs) ∧ ∀ z, z ∈ ls.foldl addP xs ↔ (z ∈ ls ∧ 13 ≤ z) ∨ z ∈ xs
 | [], xs, h => ⟨h, by simp⟩
 | l :: ls, xs, h => by
   obtain ⟨h1, h2⟩ := addP_asc (x := l) h
   obtain ⟨h3, h4⟩ := foldP_asc ls h1
   refine ⟨h3, fun z => ?_⟩
   rw [List.foldl_cons, h4, h2, List.mem_cons]
   constructor
   ·rintro (⟨h, h'⟩ | ⟨rfl, h⟩ | h)
    ·exact .inl ⟨.inr h, h'⟩
    ·exact .inl ⟨.inl rfl, h⟩
    ·exact .inr h
   ·rintro (⟨rfl | h, h'⟩ | h)
    ·exact .inr (.inl ⟨rfl, h'⟩)
    ·exact .inl ⟨h, h'⟩
    ·exact .inr (.inr h)
def reachL (c : Co) (root : Int) : List Int := root :: (c.ddt.map (·.at_) ++ (c.sets.map (·.home.at_) ++ c.parts.map (·.at_)))
def reachV (c : Co) (root : Int) : List Int := (reachL c root).foldl addP []
theorem reachV_eq (c : Co) (root : Int) : reachV c root = Lib.compact (sortI ((reachL c root).filter fun x => decide (13 ≤ x))) := by
 obtain ⟨h1, h2⟩ := foldP_asc (reachL c root) (xs := []) (by simp [AscI])
 obtain ⟨h3, h4⟩ := compact_sorted ((reachL c root).filter fun x => decide (13 ≤ x))
 refine asc_ext h1 h3 fun z => ?_
 show z ∈ (reachL c root).foldl addP [] ↔ _
 rw [h2, h4, List.mem_filter]
 simp
theorem addP_len (xs : List Int) (x : Int) : (addP xs x).length ≤ xs.length + 1 := by
 unfold addP
 split
 ·omega
 ·unfold insP
  have := congrArg List.length (List.takeWhile_append_dropWhile (p := fun y => decide (y < x)) (l := xs))
  rw [List.length_append] at this
  simp only [List.length_append, List.length_cons]; omega
theorem foldP_len : ∀ (ls xs : List Int), (ls.foldl addP xs).length ≤ xs.length + ls.length
 | [], xs => Nat.le_refl _
 | l :: ls, xs => by
   have h1 := foldP_len ls (addP xs l)
   have h2 := addP_len xs l
   rw [List.foldl_cons, List.length_cons]; omega
end Go.Proofs.YtfmjgoeclilcnaaGreatDoor
namespace Go.Proofs.YtfmjgoeclilcnaaGreatDoor
open Go.RowKit
noncomputable def okS (d : Dk) (s : CSet) : Bool := decide ((blkRead d s.home).2 = 0) && (mapP (blkRead d s.home).1).isSome
noncomputable def mset (d : Dk) (s : CSet) : CSet := ⟨s.name, s.kind, s.from_, (mapP (blkRead d s.home).1).getD (Eight.rep Ptr.zero), s.home, s.dirty⟩
noncomputable def okP (d : Dk) (p : Ptr) : Bool := decide ((blkRead d p).2 = 0) && (ddtR (blkRead d p).1).isSome
noncomputable def entsP (d : Dk) (p : Ptr) : List Ent := (ddtR (blkRead d p).1).getD []
noncomputable def mapsI (d : Dk) (cs : List CSet) (i : Nat) : List CSet := (cs.take i).map (mset d) ++ cs.drop i
theorem mapsI_zero (d : Dk) (cs : List CSet) : mapsI d cs 0 = cs := by simp [mapsI]
theorem mapsI_len (d : Dk) (cs : List CSet) (i : Nat) : (mapsI d cs i).length = cs.length := by unfold mapsI; simp; omega
theorem mapsI_at (d : Dk) {cs : List CSet} {i : Nat} (h : i < cs.length) : (mapsI d cs i).getD i ET.cset.dflt = cs.getD i ET.cset.dflt := by
 unfold mapsI
 have hl : ((cs.take i).map (mset d)).length = i := by simp; omega
 rw [List.getD_eq_getElem?_getD, List.getD_eq_getElem?_getD, List.getElem?_append_right (by omega), hl, List.getElem?_drop]
 simp
theorem mapsI_succ (d : Dk) {cs : List CSet} {i : Nat} (h : i < cs.length) : mapsI d cs (i + 1) = (mapsI d cs i).set i (mset d (cs.getD i ET.cset.dflt)) := by
 unfold mapsI
 have hl : ((cs.take i).map (mset d)).length = i := by simp; omega
 rw [List.set_append_right _ _ (by omega), hl, Nat.sub_self, List.drop_eq_getElem_cons h, List.set_cons_zero, List.take_add_one, List.getElem?_eq_getElem h, show cs.getD i ET.cset.dflt = cs[i] by simp [h], List.map_append, List.append_assoc]
 rfl
theorem mapsI_all (d : Dk) (cs : List CSet) : mapsI d cs cs.length = cs.map (mset d) := by simp [mapsI]
noncomputable def tabI (d : Dk) (ps : List Ptr) (es : List Ent) (i : Nat) : List Ent := es ++ (ps.take i).flatMap (entsP d)
theorem tabI_zero (d : Dk) (ps : List Ptr) (es : List Ent) : tabI d ps es 0 = es := by simp [tabI]
theorem tabI_succ (d : Dk) {ps : List Ptr} (es : List Ent) {i : Nat} (h : i < ps.length) : tabI d ps es (i + 1) = tabI d ps es i ++ entsP d (ps.getD i ET.ptr.dflt) := by
 unfold tabI
 rw [List.take_add_one, List.getElem?_eq_getElem h, show ps.getD i ET.ptr.dflt = ps[i] by simp [h], List.flatMap_append, ← List.append_assoc]
 simp
theorem tabI_all (d : Dk) (ps : List Ptr) (es : List Ent) : tabI d ps es ps.length = es ++ ps.flatMap (entsP d) := by simp [tabI]
theorem entsP_len (d : Dk) (p : Ptr) : (entsP d p).length ≤ 48 := by
 unfold entsP
 cases h : ddtR (blkRead d p).1 with
 | none => simp
 | some es => exact (ddtB_true.1 (ddtR_some.1 h).1).few
theorem tabI_len (d : Dk) (ps : List Ptr) (es : List Ent) (i : Nat) : (tabI d ps es i).length ≤ es.length + 48 * ps.length := by
 unfold tabI
 rw [List.length_append]
 have : ∀ qs : List Ptr, (qs.flatMap (entsP d)).length ≤ 48 * qs.length := fun qs => by
  induction qs with
  | nil => simp
  | cons q r ih =>
    have := entsP_len d q
    rw [List.flatMap_cons, List.length_append, List.length_cons]; omega
 have h := this (ps.take i)
 rw [List.length_take] at h
 omega
noncomputable def riseC (d : Dk) (x : Int) (cs : List CSet) (ps : List Ptr) : Co := ⟨x, cs.map (mset d), ps.flatMap (entsP d), ps, false, [], 0⟩
noncomputable def riseW (d : Dk) (x : Int) (r : Ptr) (cs : List CSet) (ps : List Ptr) : Co × Int :=
 if (cs.all (okS d) && ps.all (okP d) && (riseC d x cs ps).ok) = true then (⟨x, cs.map (mset d), ps.flatMap (entsP d), ps, false, reachV (riseC d x cs ps) r.at_, 0⟩, 0) else (⟨0, [], [], [], false, [], 0⟩, 8)
noncomputable def riseT (d : Dk) (x : Int) (r : Ptr) : Co × Int :=
 if (blkRead d r).2 = 0 then (match rootR (blkRead d r).1 with
  | some (cs, ps) => riseW d x r cs ps
  | none => (⟨0, [], [], [], false, [], 0⟩, 8))
 else (⟨0, [], [], [], false, [], 0⟩, 8)
end Go.Proofs.YtfmjgoeclilcnaaGreatDoor
namespace Go.Proofs.YtfmjgoeclilcnaaGreatDoor
open Go.RowKit
@[go_sem] theorem Dk.eta (d : Dk) : Dk.mk d.a d.b d.l = d := rfl
def Dk.few (d : Dk) (n : Nat) : Prop := d.a.length ≤ 6 ∧ d.b.length ≤ 6 ∧ d.l.length ≤ n
end Go.Proofs.YtfmjgoeclilcnaaGreatDoor
namespace Go.Proofs.YtfmjgoeclilcnaaGreatDoor
open Go.RowKit
structure Box (X : Prop) : Prop where
 out : X
end Go.Proofs.YtfmjgoeclilcnaaGreatDoor
namespace Go.Proofs.YtfmjgoeclilcnaaGreatDoor
open Go.RowKit
@[go_sem] noncomputable def ctUber : Ct := ⟨false, [], fun args os => match args, os with
  | [.one (.val (.int .i64 k)), .agg [.val (.int .i64 a), .val (.int .i64 s), .val (.int .i64 b)]], [] => is (vs (uberT k ⟨a, s, b⟩))
  | _, _ => no⟩
theorem uber_no {k : Int} {r : Ptr} (h : ¬ uberOk k r) : uberT k r = ⟨#[]⟩ := by unfold uberT; rw [if_neg h]
theorem s_uber_e : EnterOk Tryz.prog 185 := ⟨_, Tryz.func185, rfl, by decide⟩
@[go_sem] def s_uber_lv : List (List Nat) := [[0, 3], [0, 3, 13], [4], [3, 5], [4]]
@[go_sem] noncomputable def s_uber_K : Known := (((((Known.nil).cons 123 ctWithin s_within s_within_e).cons 96 ctReal s_isReal s_isReal_e).cons 194 ctItoa s_itoa s_itoa_e).cons 195 ctPtrText s_ptrText s_ptrText_e).cons 211 ctSeal s_seal s_seal_e
set_option maxHeartbeats 8000000 in
theorem s_uber : Sound Tryz.prog 185 ctUber := by
 have ke := s_uber_K.env []
 have kl : Lives s_uber_lv := trivial
 refine sound_intro (E := ⟨ti, s_uber_K.Γ, []⟩) ke Tryz.func185 Tryz.ntmps185 rfl (rs := [.tmp 4]) rfl ?_
 intro args os hp
 unfold ctUber at hp ⊢
 dsimp only at hp ⊢
 split at hp
 ·rename_i k a s b
  refine ⟨by simp, fun φ0 w0 => ?_⟩
  clear hp
  have nt : (!true) = false := rfl
  have nf : (!false) = true := rfl
  by_cases hk : 1 ≤ k ∧ k ≤ 1000000
  ·have c1 : decide (1 ≤ k) = true := by simp [hk.1]
   have c2 : decide (k ≤ 1000000) = true := by simp [hk.2]
   cases hr : realB ⟨a, s, b⟩ with
   | false =>
     have e := uber_no (k := k) (r := ⟨a, s, b⟩) (fun h => by have := h.2.2; rw [hr] at this; cases this)
     repeat' first
      | with_reducible refine red ?_
      | refine W_seq ?_
      | (refine W_reg (s_uber_K.env []) s_uber_lv fun K' hK' => ?_
         simp only [go_sem, c1, c2, hr, nt, nf, Bool.and_self, ↓reduceIte, ↓reduceDIte, reduceCtorEq, Nat.reduceAdd, Nat.reduceMul, Nat.reduceSub, Nat.reduceDiv, Nat.reduceMod, Nat.reduceLT, Nat.reduceLeDiff, Nat.reduceEqDiff, Nat.reduceBEq, Int.reduceToNat, Int.reduceLE, Int.reduceLT, Int.reduceEq, Int.reduceNe, Int.reduceNeg]
         (repeat' refine And.intro ?_ ?_) <;> try first | with_reducible refine hK' ?_ | exact shut6)
      | with_reducible refine blockG_o (by decide) ?_
     refine W_cnd ?_ ?_ <;> intro hlit <;> try (cases hlit; done)
     refine goh trivial ?_
     exact finh [] e
   | true =>
     have hok : uberOk k ⟨a, s, b⟩ := ⟨hk.1, hk.2, hr⟩
     have e : uberT k ⟨a, s, b⟩ = sealV (decS k ++ ⟨#[32]⟩ ++ ptrT ⟨a, s, b⟩ ++ ⟨#[32]⟩ ++ decS k) := by unfold uberT; rw [if_pos hok]; rfl
     have h1 := decS_size (n := k) (by omega) (by omega)
     have h2 := ptrT_size ⟨a, s, b⟩
     have h3 : (⟨#[32]⟩ : ByteArray).size = 1 := rfl
     obtain ⟨k1, k2⟩ := hk
     repeat' first
      | with_reducible refine red ?_
      | refine W_seq ?_
      | (refine W_reg (s_uber_K.env []) s_uber_lv fun K' hK' => ?_
         simp only [go_sem, c1, c2, hr, nt, nf, Bool.and_self, ↓reduceIte, ↓reduceDIte, reduceCtorEq, Nat.reduceAdd, Nat.reduceMul, Nat.reduceSub, Nat.reduceDiv, Nat.reduceMod, Nat.reduceLT, Nat.reduceLeDiff, Nat.reduceEqDiff, Nat.reduceBEq, Int.reduceToNat, Int.reduceLE, Int.reduceLT, Int.reduceEq, Int.reduceNe, Int.reduceNeg]
         (repeat' refine And.intro ?_ ?_) <;> try first | with_reducible refine hK' ?_ | exact shut6)
      | with_reducible refine blockG_o (by decide) ?_
     refine W_cnd ?_ ?_ <;> intro hlit <;> try (cases hlit; done)
     refine goh trivial ?_
     exact finh [] e
  ·have e := uber_no (k := k) (r := ⟨a, s, b⟩) (fun h => hk ⟨h.1, h.2.1⟩)
   have c : (decide (1 ≤ k) && decide (k ≤ 1000000)) = false := by
    rw [Bool.and_eq_false_iff, decide_eq_false_iff_not, decide_eq_false_iff_not]; omega
   refine goh (And.intro c nf) ?_
   refine W_cnd ?_ ?_ <;> intro hlit <;> try (cases hlit; done)
   refine goh trivial ?_
   exact finh [] e
 ·exact hp.elim
theorem s_specUber_e : EnterOk Tryz.prog 171 := ⟨_, Tryz.func171, rfl, by decide⟩
@[go_sem] def s_specUber_lv : List (List Nat) := [[0, 3], [0, 3, 20], [4], [4]]
@[go_sem] noncomputable def s_specUber_K : Known := ((((Known.nil).cons 87 ctPtrOk s_specPtrOk s_specPtrOk_e).cons 172 ctDecV s_dec2 s_dec2_e).cons 174 ctPtrText s_specPtrText s_specPtrText_e).cons 208 ctSeal s_specSeal s_specSeal_e
set_option maxHeartbeats 8000000 in
theorem s_specUber : Sound Tryz.prog 171 ctUber := by
 have ke := s_specUber_K.env []
 have kl : Lives s_specUber_lv := trivial
 refine sound_intro (E := ⟨ti, s_specUber_K.Γ, []⟩) ke Tryz.func171 Tryz.ntmps171 rfl (rs := [.tmp 4]) rfl ?_
 intro args os hp
 unfold ctUber at hp ⊢
 dsimp only at hp ⊢
 split at hp
 ·rename_i k a s b
  refine ⟨by simp, fun φ0 w0 => ?_⟩
  clear hp
  have nt : (!true) = false := rfl
  have nf : (!false) = true := rfl
  by_cases hk : 1 ≤ k ∧ k ≤ 1000000
  ·have c1 : decide (k < 1) = false := by simp; omega
   have c2 : decide (k > 1000000) = false := by simp; omega
   cases hr : ptrOkB ⟨a, s, b⟩ with
   | false =>
     have e := uber_no (k := k) (r := ⟨a, s, b⟩) (fun h => by have := (ptrOk_real h.2.2).1; rw [hr] at this; cases this)
     refine goh (And.intro c1 (And.intro c2 (And.intro hr (And.intro nt nf)))) ?_
     refine W_cnd ?_ ?_ <;> intro hlit <;> try (cases hlit; done)
     refine goh trivial ?_
     exact finh [] e
   | true =>
     by_cases ha : a = 0
     ·have c3 : (a == 0) = true := by simp [ha]
      have e := uber_no (k := k) (r := ⟨a, s, b⟩) (fun h => (ptrOk_real h.2.2).2.1 ha)
      refine goh (And.intro c1 (And.intro c2 (And.intro hr (And.intro c3 (And.intro nt nf))))) ?_
      refine W_cnd ?_ ?_ <;> intro hlit <;> try (cases hlit; done)
      refine goh trivial ?_
      exact finh [] e
     ·have c3 : (a == 0) = false := by simp [ha]
      have hok : uberOk k ⟨a, s, b⟩ := ⟨hk.1, hk.2, by unfold realB; rw [hr]; simpa using ha⟩
      have e : uberT k ⟨a, s, b⟩ = sealV (decS k ++ ⟨#[32]⟩ ++ ptrT ⟨a, s, b⟩ ++ ⟨#[32]⟩ ++ decS k) := by unfold uberT; rw [if_pos hok]; rfl
      have h1 := decS_size (n := k) (by omega) (by omega)
      have h2 := ptrT_size ⟨a, s, b⟩
      have h3 : (⟨#[32]⟩ : ByteArray).size = 1 := rfl
      obtain ⟨k1, k2⟩ := hk
      refine goh (And.intro c1 (And.intro c2 (And.intro hr (And.intro c3 (And.intro nt nf))))) ?_
      refine W_cnd ?_ ?_ <;> intro hlit <;> try (cases hlit; done)
      refine goh trivial ?_
      exact finh [] e
  ·have e := uber_no (k := k) (r := ⟨a, s, b⟩) (fun h => hk ⟨h.1, h.2.1⟩)
   by_cases h1 : k < 1
   ·have c1 : decide (k < 1) = true := by simp [h1]
    refine goh c1 ?_
    refine W_cnd ?_ ?_ <;> intro hlit <;> try (cases hlit; done)
    refine goh trivial ?_
    exact finh [] e
   ·have c1 : decide (k < 1) = false := by simp; omega
    have c2 : decide (k > 1000000) = true := by simp; omega
    refine goh (And.intro c1 c2) ?_
    refine W_cnd ?_ ?_ <;> intro hlit <;> try (cases hlit; done)
    refine goh trivial ?_
    exact finh [] e
 ·exact hp.elim
theorem cutV_size (c : UInt8) (s : ByteArray) : (cutV c s).2.1.size ≤ s.size := by
 unfold cutV Lib.cut bytesL
 split
 ·show (List.drop _ s.data.toList).toArray.size ≤ s.data.size
  simp
 ·exact Nat.zero_le _
theorem openV_size (s : ByteArray) : (openV s).1.size ≤ s.size := by
 unfold openV
 split
 ·exact cutV_size 58 s
 ·exact Nat.zero_le _
@[go_sem] noncomputable def ctUberRead : Ct := ⟨false, [], fun args os => match args, os with
  | [.one (.val (.string t))], [] => ifp (t.size ≤ 1000000) (match uberP t with | some (k, p) => .tup [vi k, .agg [.val (.int .i64 p.at_), .val (.int .i64 p.sum), .val (.int .i64 p.birth)], vb true] | none => .tup [vi 0, .agg [.val (.int .i64 0), .val (.int .i64 0), .val (.int .i64 0)], vb false])
  | _, _ => no⟩
theorem s_uberRead_e : EnterOk Tryz.prog 122 := ⟨_, Tryz.func122, rfl, by decide⟩
@[go_sem] def s_uberRead_lv : List (List Nat) := [[0, 3], [0, 3, 5], [0, 3, 7], [0, 3, 7, 21], [2, 3, 4], [0, 3, 7, 8, 9], [0, 3, 8, 9, 10, 11], [3, 8, 10, 49], [2, 3, 4], [2, 3, 4]]
@[go_sem] noncomputable def s_uberRead_K : Known := (((((Known.nil).cons 183 ctSumOpen s_sumOpen s_sumOpen_e).cons 130 ctSplit s_split s_split_e).cons 184 ctAtoi s_atoi s_atoi_e).cons 135 ctPtrRead s_ptrRead s_ptrRead_e).cons 185 ctUber s_uber s_uber_e
set_option maxHeartbeats 8000000 in
theorem s_uberRead : Sound Tryz.prog 122 ctUberRead := by
 have ke := s_uberRead_K.env []
 have kl : Lives s_uberRead_lv := trivial
 refine sound_intro (E := ⟨ti, s_uberRead_K.Γ, []⟩) ke Tryz.func122 Tryz.ntmps122 rfl (rs := [.tmp 2, .cell 3 71, .tmp 4]) rfl ?_
 intro args os hp
 unfold ctUberRead at hp ⊢
 dsimp only at hp ⊢
 split at hp
 ·rename_i t
  refine ⟨by simp, fun φ0 w0 => ?_⟩
  have hlen : t.size ≤ 1000000 := hp
  have nt : (!true) = false := rfl
  have nf : (!false) = true := rfl
  have hsp : (⟨#[32]⟩ : ByteArray).data.getD 0 0 = 32 := rfl
  have hsz : (⟨#[32]⟩ : ByteArray).size = 1 := rfl
  have hos := openV_size t
  obtain ⟨⟨inner, ok⟩, hin⟩ : ∃ x, openV t = x := ⟨_, rfl⟩
  rw [hin] at hos
  simp only at hos
  have hwl := splitV_len 32 inner
  have hms : ∀ w ∈ splitV 32 inner, w.size ≤ 1000000 := fun w hw => Nat.le_trans (splitV_size hw) (by omega)
  obtain ⟨ws, hws⟩ : ∃ ws, splitV 32 inner = ws := ⟨_, rfl⟩
  rw [hws] at hms hwl
  refine goh (And.intro hsp (And.intro hsz (And.intro hin hws))) ?_
  refine W_cnd ?_ ?_ <;> (try simp only [cnd_r]) <;> intro h3
  ·have h3' : ws.length ≠ 3 := by intro e; rw [e] at h3; exact absurd h3 (by decide)
   have e : uberP t = none := by
    unfold uberP
    rw [hin]
    simp only
    rw [hws]
    split
    ·exact absurd rfl h3'
    ·rfl
   refine goh trivial ?_
   exact finh [] e
  ·have h3' : ws.length = 3 := by omega
   match ws, h3' with
   | [x, y, z], _ =>
   have m0 := hms x (by simp)
   have m1 := hms y (by simp)
   have m0' : x.size ≤ 281474976710656 := by omega
   have e : uberP t = (match atoiV x, ptrReadV y with
    | some k, some r => if uberT k r = t then some (k, r) else none
    | _, _ => none) := by unfold uberP; rw [hin]; simp only; rw [hws]; try rfl
   cases ha : atoiV x with
   | none =>
     rw [ha] at e
     simp only at e
     cases hr : ptrReadV y with
     | none =>
       refine goh (And.intro ha (And.intro hr (And.intro m0' (And.intro m1 nf)))) ?_
       refine W_cnd ?_ ?_ <;> intro hlit <;> try (cases hlit; done)
       refine goh trivial ?_
       exact finh [] e
     | some r =>
       refine goh (And.intro ha (And.intro hr (And.intro m0' (And.intro m1 nt)))) ?_
       refine W_cnd ?_ ?_ <;> intro hlit <;> try (cases hlit; done)
       refine goh trivial ?_
       exact finh [] e
   | some k =>
     have hk := (atoiV_in ha).1
     rw [ha] at e
     cases hr : ptrReadV y with
     | none =>
       rw [hr] at e
       simp only at e
       refine goh (And.intro ha (And.intro hr (And.intro m0' (And.intro m1 nf)))) ?_
       refine W_cnd ?_ ?_ <;> intro hlit <;> try (cases hlit; done)
       refine goh trivial ?_
       exact finh [] e
     | some r =>
       obtain ⟨ra, rs, rb⟩ := r
       rw [hr] at e
       simp only at e
       cases hs : same (uberT k ⟨ra, rs, rb⟩) t with
       | false =>
         rw [if_neg (fun h => by rw [same_true.2 h] at hs; cases hs)] at e
         refine goh (And.intro ha (And.intro hr (And.intro hk (And.intro hs (And.intro m0' (And.intro m1 (And.intro nt nf))))))) ?_
         refine W_cnd ?_ ?_ <;> intro hlit <;> try (cases hlit; done)
         refine goh trivial ?_
         exact finh [] e
       | true =>
         rw [if_pos (same_true.1 hs)] at e
         refine goh (And.intro ha (And.intro hr (And.intro hk (And.intro hs (And.intro m0' (And.intro m1 (And.intro nt nf))))))) ?_
         refine W_cnd ?_ ?_ <;> intro hlit <;> try (cases hlit; done)
         refine goh hk ?_
         exact finh [] e
 ·simp [no, ifp] at hp
end Go.Proofs.YtfmjgoeclilcnaaGreatDoor
