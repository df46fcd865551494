import Derived.Test.YtfmjgoeclilcnaaGreatDoorM6
import Derived.Test.YtfmjgoeclilcnaaGreatDoorM7
import Derived.Test.YtfmjgoeclilcnaaGreatDoorM8
import Derived.Test.YtfmjgoeclilcnaaGreatDoorM9
set_option linter.unusedSimpArgs false
set_option linter.unusedVariables false
set_option linter.unusedSectionVars false
namespace Go.Proofs.YtfmjgoeclilcnaaGreatDoor
open Go.RowKit
theorem sum_step2 (s : ByteArray) (i : Nat) (hi : i < s.size) : (IntKind.i64.wrap (IntKind.i64.wrap (IntKind.i64.wrap ((sumAt s i : Int) * 257) + IntKind.i64.wrap ((s.data.getD i 0).toNat : Int)) + 1)).tmod 65521 = (sumAt s (i + 1) : Nat) := by
 rw [Int.mul_comm]
 exact sum_step s i hi
@[go_sem] def sgSum2 (s : ByteArray) (i : Nat) : Sg := ⟨[(0, .one (.val (.string s))), (3, vi (sumAt s i)), (4, vi i)], [], []⟩
theorem s_specSum_e : EnterOk Tryz.prog 88 := ⟨_, Tryz.func88, rfl, by decide⟩
@[go_sem] def s_specSum_lv : List (List Nat) := [[0], [0, 3], [0, 3, 4], [0, 3, 4, 12], [0, 3, 4], [0, 3, 4], [2]]
@[go_sem] noncomputable def s_specSum_K : Known := Known.nil
set_option maxHeartbeats 8000000 in
theorem s_specSum : Sound Tryz.prog 88 ctSumOf := by
 have ke := s_specSum_K.env []
 have kl : Lives s_specSum_lv := trivial
 refine sound_intro (E := ⟨ti, s_specSum_K.Γ, []⟩) ke Tryz.func88 Tryz.ntmps88 rfl (rs := [.tmp 2]) rfl ?_
 intro args os hp
 unfold ctSumOf at hp ⊢
 dsimp only at hp ⊢
 split at hp
 ·rename_i s
  refine ⟨by simp, fun φ0 w0 => ?_⟩
  have hlen : s.size ≤ 1000000000 := hp
  clear hp
  have hf := sum_first s hlen
  refine goh hf ?_
  refine W_le (σ' := sgSum2 s 0) [] (by
   simp only [go_sem, hf, inj_r, ↓reduceIte, reduceCtorEq, Nat.reduceAdd, Nat.reduceLT, Nat.reduceLeDiff, Nat.reduceEqDiff, Int.reduceEq]
   all_goals (repeat' refine And.intro ?_ ?_) <;> try exact shut7
   ) ?_
  refine W_loop (fun n σ => ∃ i : Nat, i ≤ s.size ∧ n = s.size - i ∧ σ = sgSum2 s i) s.size ⟨0, by omega, by omega, rfl⟩ ?_
  rintro n σ ⟨i, hi, rfl, rfl⟩
  unfold sgSum2
  refine goh trivial ?_
  refine W_cnd ?_ ?_ <;> (try simp only [cnd_r]) <;> intro hlt
  ·have hs := sum_step2 s i (by omega)
   refine goh hs ?_
   refine ⟨s.size - (i + 1), [], sgSum2 s (i + 1), by omega, ?_, i + 1, by omega, rfl, rfl⟩
   exact leh hs
  ·obtain rfl : i = s.size := by omega
   refine goh trivial ?_
   refine ⟨by (simp only [go_sem, sumOf, ↓reduceIte, reduceCtorEq, Nat.reduceAdd, Nat.reduceLT, Nat.reduceLeDiff, Nat.reduceEqDiff]) <;> trivial, [], ?_⟩
   all_goals try simp only [go_sem, sumOf, inj_r, ↓reduceIte, reduceCtorEq, Nat.reduceAdd, Nat.reduceLT, Nat.reduceLeDiff, Nat.reduceEqDiff, Int.reduceEq]
   all_goals (repeat' refine And.intro ?_ ?_) <;> try exact shut7
 ·simp [no, ifp] at hp
theorem s_specText_e : EnterOk Tryz.prog 105 := ⟨_, Tryz.func105, rfl, by decide⟩
@[go_sem] def s_specText_lv : List (List Nat) := [[1, 2, 3], [1, 2, 3, 7], [1, 2, 3, 7, 13], [1, 2, 3, 7], [1, 2, 3, 7, 33], [6], [6]]
@[go_sem] noncomputable def s_specText_K : Known := Known.nil
set_option maxHeartbeats 8000000 in
theorem s_specText : Sound Tryz.prog 105 ctTextOf := by
 have ke := s_specText_K.env []
 have kl : Lives s_specText_lv := trivial
 refine sound_intro (E := ⟨ti, s_specText_K.Γ, []⟩) ke Tryz.func105 Tryz.ntmps105 rfl (rs := [.tmp 6]) rfl ?_
 intro args os hp
 unfold ctTextOf at hp ⊢
 dsimp only at hp ⊢
 split at hp
 ·rename_i a b l s k
  refine ⟨by simp, fun φ0 w0 => ?_⟩
  obtain ⟨⟨h1, h2, h3⟩, hab, hs⟩ : (a.length ≤ 4000000 ∧ b.length ≤ 4000000 ∧ l.length ≤ 4000000) ∧ b.length = a.length ∧ sector a.length s k = true := hp
  obtain ⟨ws, w1, w2⟩ := (sector_iff _ _ _).1 hs
  have hw : IntKind.i64.wrap ((l.length : Int) - 1) = (l.length : Int) - 1 := wrap_id _ (by omega) (by omega)
  refine goh hw ?_
  refine W_le (σ' := sgTx a b l s k l.length) [some 0] (by
   simp only [go_sem, inj_r, ↓reduceIte, reduceCtorEq, Nat.reduceAdd, Nat.reduceLT, Nat.reduceLeDiff, Nat.reduceEqDiff, Int.reduceEq]
   all_goals (repeat' refine And.intro ?_ ?_) <;> try exact shut7
   ) ?_
  refine W_loop (fun n σ => n ≤ l.length ∧ lateText l s k (sec (a, b) s k) n = (Dk.mk a b l).text s k ∧ σ = sgTx a b l s k n) l.length ⟨Nat.le_refl _, rfl, rfl⟩ ?_
  rintro n σ ⟨hn, ht, rfl⟩
  unfold sgTx
  refine goh trivial ?_
  refine W_cnd ?_ ?_ <;> (try simp only [cnd_r]) <;> intro hlt
  ·obtain ⟨m, rfl⟩ : ∃ m, n = m + 1 := ⟨n - 1, by omega⟩
   have e1 : ((m + 1 : Nat) : Int) - 1 = (m : Int) := by omega
   have e2 : IntKind.i64.wrap ((m : Int) - 1) = (m : Int) - 1 := wrap_id _ (by omega) (by omega)
   refine goh e1 ?_
   refine W_cnd ?_ ?_ <;> (try simp only [cnd_r]) <;> intro hc
   ·have ht2 : lateText l s k (sec (a, b) s k) (m + 1) = (ET.late.at l m).text := if_pos hc
    refine goh trivial ?_
    refine ⟨by (simp only [go_sem, ↓reduceIte, reduceCtorEq, Nat.reduceAdd, Nat.reduceLT, Nat.reduceLeDiff, Nat.reduceEqDiff]) <;> trivial, [], ?_⟩
    all_goals try simp only [go_sem, inj_r, ↓reduceIte, reduceCtorEq, Nat.reduceAdd, Nat.reduceLT, Nat.reduceLeDiff, Nat.reduceEqDiff, Int.reduceEq]
    all_goals (repeat' refine And.intro ?_ ?_) <;> try exact shut7
    rw [← ht, ht2]; rfl
   ·have ht2 : lateText l s k (sec (a, b) s k) (m + 1) = lateText l s k (sec (a, b) s k) m := by
     refine if_neg ?_
     rintro ⟨q1, q2⟩
     rcases hc with h | h
     ·exact h q1
     ·rw [beq_eq_false_iff_ne] at h; exact h q2
    refine goh e2 ?_
    refine ⟨m, [some 0], sgTx a b l s k m, by omega, ?_, by omega, ht2 ▸ ht, rfl⟩
    exact leh trivial
  ·obtain rfl : n = 0 := by omega
   rcases ws with rfl | rfl
   all_goals
    refine goh trivial ?_
    refine ⟨by (simp only [go_sem, ← ht, lateText, sec, ↓reduceIte, reduceCtorEq, Nat.reduceAdd, Nat.reduceLT, Nat.reduceLeDiff, Nat.reduceEqDiff]) <;> trivial, [], ?_⟩
    all_goals try simp only [go_sem, ← ht, lateText, sec, inj_r, ↓reduceIte, reduceCtorEq, Nat.reduceAdd, Nat.reduceLT, Nat.reduceLeDiff, Nat.reduceEqDiff, Int.reduceEq]
    all_goals (repeat' refine And.intro ?_ ?_) <;> try exact shut7
 ·simp [no, ifp] at hp
theorem s_specRead_e : EnterOk Tryz.prog 86 := ⟨_, Tryz.func86, rfl, by decide⟩
@[go_sem] def s_specRead_lv : List (List Nat) := [[1, 2, 3], [1, 2, 3, 17], [6, 7], [6, 7]]
@[go_sem] noncomputable def s_specRead_K : Known := (((Known.nil).cons 46 ctDiskOk s_specDiskOk s_specDiskOk_e).cons 104 ctThere s_there s_there_e).cons 105 ctTextOf s_specText s_specText_e
set_option maxHeartbeats 8000000 in
theorem s_specRead : Sound Tryz.prog 86 ctDiskRead := by
 have ke := s_specRead_K.env []
 have kl : Lives s_specRead_lv := trivial
 refine sound_intro (E := ⟨ti, s_specRead_K.Γ, []⟩) ke Tryz.func86 Tryz.ntmps86 rfl (rs := [.tmp 6, .tmp 7]) rfl ?_
 intro args os hp
 unfold ctDiskRead at hp ⊢
 dsimp only at hp ⊢
 split at hp
 ·rename_i a b l s k
  refine ⟨by simp, fun φ0 w0 => ?_⟩
  obtain ⟨h1, h2, h3⟩ : a.length ≤ 4000000 ∧ b.length ≤ 4000000 ∧ l.length ≤ 4000000 := hp
  have e1 : dkReads ⟨a, b, l⟩ s k = ((Dk.mk a b l).ok && sector a.length s k) := rfl
  have e2 : dkRead ⟨a, b, l⟩ s k = if dkReads ⟨a, b, l⟩ s k then (Dk.mk a b l).text s k else ⟨#[]⟩ := rfl
  have e4 := fits_sector a.length s k
  refine goh e4 ?_
  refine W_cnd ?_ ?_ <;> (try simp only [cnd_r]) <;> intro hc
  ·have e3 : dkReads ⟨a, b, l⟩ s k = false := by
    rw [e1]
    rcases hc with h | h <;> simp [h]
   refine goh trivial ?_
   exact finh [] (And.intro e2 e3)
  ·obtain ⟨hok, hs⟩ : (Dk.mk a b l).ok = true ∧ sector a.length s k = true := by simpa using hc
   have e3 : dkReads ⟨a, b, l⟩ s k = true := by rw [e1, hok, hs]; rfl
   obtain ⟨-, -, hab, -⟩ := (Dk.ok_iff _).1 hok
   simp only at hab
   refine goh trivial ?_
   exact finh [] (And.intro e2 e3)
 ·simp [no, ifp] at hp
theorem ptrOk_zero {a s b : Int} (h : a = 0) : ptrOkB ⟨a, s, b⟩ = (decide (a = 0) && decide (s = 0) && decide (b = 0)) := by
 subst h; unfold ptrOkB; simp
theorem s_specPtrOk_e : EnterOk Tryz.prog 87 := ⟨_, Tryz.func87, rfl, by decide⟩
@[go_sem] def s_specPtrOk_lv : List (List Nat) := [[1], [1, 5], [2], [2]]
@[go_sem] noncomputable def s_specPtrOk_K : Known := Known.nil
set_option maxHeartbeats 8000000 in
theorem s_specPtrOk : Sound Tryz.prog 87 ctPtrOk := by
 have ke := s_specPtrOk_K.env []
 have kl : Lives s_specPtrOk_lv := trivial
 refine sound_intro (E := ⟨ti, s_specPtrOk_K.Γ, []⟩) ke Tryz.func87 Tryz.ntmps87 rfl (rs := [.tmp 2]) rfl ?_
 intro args os hp
 unfold ctPtrOk at hp ⊢
 dsimp only at hp ⊢
 split at hp
 ·rename_i a s b
  refine ⟨by simp, fun φ0 w0 => ?_⟩
  clear hp
  refine goh trivial ?_
  refine W_cnd ?_ ?_ <;> (try simp only [cnd_r]) <;> intro hc
  ·refine goh trivial ?_
   refine ⟨by (simp only [go_sem, ↓reduceIte, reduceCtorEq, Nat.reduceAdd, Nat.reduceLT, Nat.reduceLeDiff, Nat.reduceEqDiff]) <;> trivial, [], ?_⟩
   all_goals try simp only [go_sem, inj_r, ↓reduceIte, reduceCtorEq, Nat.reduceAdd, Nat.reduceLT, Nat.reduceLeDiff, Nat.reduceEqDiff, Int.reduceEq]
   all_goals (repeat' refine And.intro ?_ ?_) <;> try exact shut7
   rw [same_ptr, ptrOk_zero hc]
  ·refine goh trivial ?_
   refine ⟨by (simp only [go_sem, ↓reduceIte, reduceCtorEq, Nat.reduceAdd, Nat.reduceLT, Nat.reduceLeDiff, Nat.reduceEqDiff]) <;> trivial, [], ?_⟩
   all_goals try simp only [go_sem, inj_r, ↓reduceIte, reduceCtorEq, Nat.reduceAdd, Nat.reduceLT, Nat.reduceLeDiff, Nat.reduceEqDiff, Int.reduceEq]
   all_goals (repeat' refine And.intro ?_ ?_) <;> try exact shut7
   rw [ptrOkB, Bool.eq_iff_iff]
   simp only [Bool.if_true_left, Bool.if_false_right, Bool.or_eq_true, Bool.and_eq_true, decide_eq_true_eq, Bool.decide_eq_true, and_assoc]
   have hc2 : a ≠ 0 := by simpa using hc
   omega
 ·simp [no] at hp
theorem dkRead_size (d : Dk) (s k : Int) : (dkRead d s k).size ≤ 420 := by
 unfold dkRead
 split
 ·rename_i h
  unfold dkReads at h
  rw [Bool.and_eq_true] at h
  exact Dk.text_size h.1 s k
 ·exact Nat.zero_le _
theorem side_eq (d : Dk) (a s b i : Int) : blkSide d ⟨a, s, b⟩ i = (dkReads d i a && ptrOkB ⟨a, s, b⟩ && decide (a > 0) && decide ((sumOf (dkRead d i a) : Int) = s)) := by
 unfold blkSide realB Dk.has
 by_cases h : dkReads d i a = true
 ·have h2 : dkRead d i a = d.text i a := by unfold dkRead; rw [if_pos h]
  have h3 := h
  unfold dkReads at h3
  rw [Bool.and_eq_true] at h3
  rw [h, h2, h3.1]
  simp only [h3.2, Bool.true_and]
  by_cases hp : ptrOkB ⟨a, s, b⟩ = true
  ·have e : (!(a == 0)) = decide (a > 0) := by
    rw [Bool.eq_iff_iff]
    unfold ptrOkB at hp
    simp only [Bool.and_eq_true, Bool.or_eq_true, decide_eq_true_eq, Bool.not_eq_true', beq_eq_false_iff_ne, ne_eq] at hp ⊢
    omega
   rw [hp, e]
  ·rw [show ptrOkB ⟨a, s, b⟩ = false by simpa using hp]; simp
 ·rw [show dkReads d i a = false by simpa using h]
  have h3 : (d.ok && sector d.a.length i a) = false := by unfold dkReads at h; simpa using h
  simp only [Bool.false_and]
  rw [Bool.and_eq_false_iff] at h3
  rcases h3 with h3 | h3 <;> simp [h3]
theorem s_specSide_e : EnterOk Tryz.prog 33 := ⟨_, Tryz.func33, rfl, by decide⟩
@[go_sem] def s_specSide_lv : List (List Nat) := [[2, 3, 4], [4, 7, 8], [6]]
@[go_sem] noncomputable def s_specSide_K : Known := (((Known.nil).cons 86 ctDiskRead s_specRead s_specRead_e).cons 87 ctPtrOk s_specPtrOk s_specPtrOk_e).cons 88 ctSumOf s_specSum s_specSum_e
set_option maxHeartbeats 8000000 in
theorem s_specSide : Sound Tryz.prog 33 ctBlkSide := by
 have ke := s_specSide_K.env []
 have kl : Lives s_specSide_lv := trivial
 refine sound_intro (E := ⟨ti, s_specSide_K.Γ, []⟩) ke Tryz.func33 Tryz.ntmps33 rfl (rs := [.tmp 6]) rfl ?_
 intro args os hp
 unfold ctBlkSide at hp ⊢
 dsimp only at hp ⊢
 split at hp
 ·rename_i a b l pa ps pb s
  refine ⟨by simp, fun φ0 w0 => ?_⟩
  obtain ⟨h1, h2, h3⟩ : a.length ≤ 4000000 ∧ b.length ≤ 4000000 ∧ l.length ≤ 4000000 := hp
  have e := side_eq ⟨a, b, l⟩ pa ps pb s
  have hz := dkRead_size ⟨a, b, l⟩ s pa
  refine goh trivial ?_
  refine ⟨by (simp only [go_sem, ↓reduceIte, reduceCtorEq, Nat.reduceAdd, Nat.reduceLT, Nat.reduceLeDiff, Nat.reduceEqDiff]) <;> trivial, [], ?_⟩
  all_goals try simp only [go_sem, inj_r, ↓reduceIte, reduceCtorEq, Nat.reduceAdd, Nat.reduceLT, Nat.reduceLeDiff, Nat.reduceEqDiff, Int.reduceEq]
  all_goals (repeat' refine And.intro ?_ ?_) <;> try exact shut7
  rw [e]
  cases dkReads ⟨a, b, l⟩ s pa <;> cases ptrOkB ⟨pa, ps, pb⟩ <;> first | rfl | (simp; done) | (simp; rfl)
 ·simp [no, ifp] at hp
theorem ptrOk_at {a s b : Int} : (ptrOkB ⟨a, s, b⟩ = true ∧ a = 0) ↔ (a = 0 ∧ s = 0 ∧ b = 0) := by
 constructor
 ·rintro ⟨h, rfl⟩
  rw [ptrOk_zero rfl] at h
  simpa using h
 ·rintro ⟨rfl, rfl, rfl⟩; exact ⟨by decide, rfl⟩
theorem read_side (d : Dk) (a s b : Int) (h : ¬ (a = 0 ∧ s = 0 ∧ b = 0)) : blkRead d ⟨a, s, b⟩ = if blkSide d ⟨a, s, b⟩ 0 = true then (d.text 0 a, 0) else if blkSide d ⟨a, s, b⟩ 1 = true then (d.text 1 a, 0) else (⟨#[]⟩, 2) := by
 unfold blkRead blkSide
 rw [if_neg h]
 cases d.ok <;> cases realB ⟨a, s, b⟩ <;> simp
theorem side_sector {d : Dk} {a s b i : Int} (h : blkSide d ⟨a, s, b⟩ i = true) : d.ok = true ∧ sector d.a.length i a = true := by
 unfold blkSide Dk.has at h
 simp only [Bool.and_eq_true] at h
 exact ⟨h.1.1, h.2.1⟩
theorem side_has {d : Dk} {p : Ptr} (h : (blkRead d p).2 = 0) (i : Int) : blkSide d p i = d.has p i := by
 unfold blkRead at h
 split at h
 ·simp at h
 ·split at h
  ·rename_i h2
   unfold blkSide; rw [h2, Bool.true_and]
  ·simp at h
@[go_sem] def sgSr (a b : List ByteArray) (l : List Late) (pa ps pb i : Int) : Sg := ⟨[(2, .one (.ptr 0 0)), (3, .one (.ptr 1 0)), (6, vi i)], [some (.cells [.isl .str a, .isl .str b, .isl .late l]), some (.cells [.val (.int .i64 pa), .val (.int .i64 ps), .val (.int .i64 pb)])], []⟩
theorem s_specBlkRead_e : EnterOk Tryz.prog 47 := ⟨_, Tryz.func47, rfl, by decide⟩
@[go_sem] def s_specBlkRead_lv : List (List Nat) := [[2, 3], [2, 3, 13], [4, 5], [2, 3, 6], [2, 3, 6, 15], [2, 3, 6], [2, 3, 6, 21], [4, 5], [4, 5]]
@[go_sem] noncomputable def s_specBlkRead_K : Known := (((Known.nil).cons 87 ctPtrOk s_specPtrOk s_specPtrOk_e).cons 33 ctBlkSide s_specSide s_specSide_e).cons 105 ctTextOf s_specText s_specText_e
set_option maxHeartbeats 8000000 in
theorem s_specBlkRead : Sound Tryz.prog 47 ctBlkRead := by
 have ke := s_specBlkRead_K.env []
 have kl : Lives s_specBlkRead_lv := trivial
 refine sound_intro (E := ⟨ti, s_specBlkRead_K.Γ, []⟩) ke Tryz.func47 Tryz.ntmps47 rfl (rs := [.tmp 4, .tmp 5]) rfl ?_
 intro args os hp
 unfold ctBlkRead at hp ⊢
 dsimp only at hp ⊢
 split at hp
 ·rename_i a b l pa ps pb
  refine ⟨by simp, fun φ0 w0 => ?_⟩
  obtain ⟨h1, h2, h3⟩ : a.length ≤ 4000000 ∧ b.length ≤ 4000000 ∧ l.length ≤ 4000000 := hp
  refine goh trivial ?_
  refine W_cond _ (by exact rfl) (by exact trivial) ?_ ?_ <;> intro hc
  ·have hz : pa = 0 ∧ ps = 0 ∧ pb = 0 := ptrOk_at.1 (by simpa using hc)
   have e : blkRead ⟨a, b, l⟩ ⟨pa, ps, pb⟩ = (⟨#[]⟩, 1) := by unfold blkRead; rw [if_pos hz]
   refine goh trivial ?_
   exact finh [] e
  ·have hz : ¬ (pa = 0 ∧ ps = 0 ∧ pb = 0) := fun h => by
    have := ptrOk_at.2 h
    rw [this.1, this.2] at hc
    simp at hc
   have e := read_side ⟨a, b, l⟩ pa ps pb hz
   refine goh trivial ?_
   refine W_le (σ' := sgSr a b l pa ps pb 0) [some 0, some 1] (by
    simp only [go_sem, inj_r, ↓reduceIte, reduceCtorEq, Nat.reduceAdd, Nat.reduceLT, Nat.reduceLeDiff, Nat.reduceEqDiff, Int.reduceEq]
    all_goals (repeat' refine And.intro ?_ ?_) <;> try exact shut7
    ) ?_
   refine W_loop (fun q σ => (q = 2 ∧ σ = sgSr a b l pa ps pb 0) ∨ (q = 1 ∧ blkSide ⟨a, b, l⟩ ⟨pa, ps, pb⟩ 0 = false ∧ σ = sgSr a b l pa ps pb 1) ∨ (q = 0 ∧ blkSide ⟨a, b, l⟩ ⟨pa, ps, pb⟩ 0 = false ∧ blkSide ⟨a, b, l⟩ ⟨pa, ps, pb⟩ 1 = false ∧ σ = sgSr a b l pa ps pb 2)) 2 (.inl ⟨rfl, rfl⟩) ?_
   rintro q σ (⟨rfl, rfl⟩ | ⟨rfl, n0, rfl⟩ | ⟨rfl, n0, n1, rfl⟩)
   ·unfold sgSr
    refine goh trivial ?_
    refine W_cnd ?_ ?_ <;> intro hlit <;> try (cases hlit; done)
    refine goh trivial ?_
    refine W_cond _ (by exact rfl) (by exact trivial) ?_ ?_ <;> intro hs
    ·obtain ⟨hok, hsec⟩ := side_sector hs
     obtain ⟨-, -, hab, -⟩ := (Dk.ok_iff _).1 hok
     simp only at hab hsec
     rw [if_pos hs] at e
     refine goh trivial ?_
     exact finh [] e
    ·refine goh trivial ?_
     refine ⟨1, [some 0, some 1], sgSr a b l pa ps pb 1, by omega, ?_, .inr (.inl ⟨rfl, hs, rfl⟩)⟩
     exact leh trivial
   ·unfold sgSr
    refine goh trivial ?_
    refine W_cnd ?_ ?_ <;> intro hlit <;> try (cases hlit; done)
    refine goh trivial ?_
    refine W_cond _ (by exact rfl) (by exact trivial) ?_ ?_ <;> intro hs
    ·obtain ⟨hok, hsec⟩ := side_sector hs
     obtain ⟨-, -, hab, -⟩ := (Dk.ok_iff _).1 hok
     simp only at hab hsec
     rw [n0, if_neg (by decide), if_pos hs] at e
     refine goh trivial ?_
     exact finh [] e
    ·refine goh trivial ?_
     refine ⟨0, [some 0, some 1], sgSr a b l pa ps pb 2, by omega, ?_, .inr (.inr ⟨rfl, n0, hs, rfl⟩)⟩
     exact leh trivial
   ·rw [n0, n1, if_neg (by decide), if_neg (by decide)] at e
    unfold sgSr
    refine goh trivial ?_
    refine W_cnd ?_ ?_ <;> intro hlit <;> try (cases hlit; done)
    refine goh trivial ?_
    exact finh [] e
 ·simp [no, ifp] at hp
theorem s_specHeal_e : EnterOk Tryz.prog 34 := ⟨_, Tryz.func34, rfl, by decide⟩
@[go_sem] def s_specHeal_lv : List (List Nat) := [[2, 3, 4], [2, 3, 4, 15], [4, 5], [2, 3, 4, 6], [2, 3, 4, 6, 7], [2, 3, 4, 6, 7, 8, 9], [2, 3, 4, 6, 8, 9, 35], [4, 5], [2, 3, 4, 6, 8, 10], [2, 3, 4, 8, 10, 39], [2, 3, 4, 8, 10], [2, 4, 11, 12], [2, 4, 11, 50], [4, 5], [4, 5]]
@[go_sem] noncomputable def s_specHeal_K : Known := (((((Known.nil).cons 46 ctDiskOk s_specDiskOk s_specDiskOk_e).cons 33 ctBlkSide s_specSide s_specSide_e).cons 47 ctBlkRead s_specBlkRead s_specBlkRead_e).cons 84 ctOwn s_copy s_copy_e).cons 89 ctDiskWrite s_specWrite s_specWrite_e
set_option maxHeartbeats 8000000 in
theorem s_specHeal : Sound Tryz.prog 34 ctBlkHeal := by
 have ke := s_specHeal_K.env []
 have kl : Lives s_specHeal_lv := trivial
 refine sound_intro (E := ⟨ti, s_specHeal_K.Γ, []⟩) ke Tryz.func34 Tryz.ntmps34 rfl (rs := [.cell 4 38, .tmp 5]) rfl ?_
 intro args os hp
 unfold ctBlkHeal at hp ⊢
 dsimp only at hp ⊢
 split at hp
 ·rename_i a b l pa ps pb
  refine ⟨by simp, fun φ0 w0 => ?_⟩
  obtain ⟨h1, h2, h3⟩ : a.length ≤ 4000000 ∧ b.length ≤ 4000000 ∧ l.length ≤ 4000000 := hp
  refine goh trivial ?_
  refine W_cnd ?_ ?_ <;> (try simp only [cnd_r]) <;> intro hok
  ·have e1 : blkHeal ⟨a, b, l⟩ ⟨pa, ps, pb⟩ = (.nil, 2) := by unfold blkHeal; rw [if_neg (by rw [hok]; simp)]
   refine goh trivial ?_
   refine ⟨by (simp only [go_sem, e1, Dk.nil, ↓reduceIte, reduceCtorEq, Nat.reduceAdd, Nat.reduceLT, Nat.reduceLeDiff, Nat.reduceEqDiff]) <;> trivial, [none, none, none], ?_⟩
   all_goals try simp only [go_sem, e1, Dk.nil, inj_r, ↓reduceIte, reduceCtorEq, Nat.reduceAdd, Nat.reduceLT, Nat.reduceLeDiff, Nat.reduceEqDiff, Int.reduceEq]
   all_goals (repeat' refine And.intro ?_ ?_) <;> try exact shut7
  ·by_cases hcode : (blkRead ⟨a, b, l⟩ ⟨pa, ps, pb⟩).2 = 0
   ·have s0 := side_has hcode 0
    have s1 := side_has hcode 1
    obtain ⟨u, hu⟩ : ∃ u, (Dk.mk a b l).has ⟨pa, ps, pb⟩ 0 = u := ⟨_, rfl⟩
    obtain ⟨v, hv⟩ : ∃ v, (Dk.mk a b l).has ⟨pa, ps, pb⟩ 1 = v := ⟨_, rfl⟩
    have hbl : blkHeal ⟨a, b, l⟩ ⟨pa, ps, pb⟩ = if u = v then (⟨a, b, l⟩, 0) else if (Dk.mk a b l).may (if u then 1 else 0) pa (blkRead ⟨a, b, l⟩ ⟨pa, ps, pb⟩).1 then ((Dk.mk a b l).add (if u then 1 else 0) pa (blkRead ⟨a, b, l⟩ ⟨pa, ps, pb⟩).1, 0) else (⟨a, b, l⟩, 2) := by
     unfold blkHeal badSide
     rw [if_pos hok, hcode, hu, hv]
     simp
    rw [hu] at s0
    rw [hv] at s1
    obtain ⟨t, ht⟩ : ∃ t, (blkRead ⟨a, b, l⟩ ⟨pa, ps, pb⟩).1 = t := ⟨_, rfl⟩
    rw [ht] at hbl
    have cb1 : (false == true) = false := rfl
    have cb2 : (true == false) = false := rfl
    cases u <;> cases v
    ·have hbl2 : blkHeal ⟨a, b, l⟩ ⟨pa, ps, pb⟩ = (⟨a, b, l⟩, 0) := hbl
     refine goh (And.intro hcode (And.intro s0 s1)) ?_
     refine W_cnd ?_ ?_ <;> intro hlit <;> try (cases hlit; done)
     refine goh trivial ?_
     exact finh [some 3, some 4, some 5] hbl2
    ·have hbl2 : blkHeal ⟨a, b, l⟩ ⟨pa, ps, pb⟩ = if (Dk.mk a b l).may 0 pa t = true then ((Dk.mk a b l).add 0 pa t, 0) else (⟨a, b, l⟩, 2) := hbl
     clear hbl
     have hk : dkWrite ⟨a, b, l⟩ 0 pa t = if (Dk.mk a b l).may 0 pa t = true then (Dk.mk a b l).add 0 pa t else ⟨a, b, l⟩ := by unfold dkWrite; rw [if_pos hok]
     have hk2 : dkWrites ⟨a, b, l⟩ 0 pa t = (Dk.mk a b l).may 0 pa t := by unfold dkWrites; rw [hok]; rfl
     refine goh (And.intro hcode (And.intro s0 (And.intro s1 (And.intro ht (And.intro cb1 cb2))))) ?_
     refine W_cnd ?_ ?_ <;> intro hlit <;> try (cases hlit; done)
     refine goh trivial ?_
     refine W_cnd ?_ ?_ <;> intro hlit <;> try (cases hlit; done)
     by_cases hm : (Dk.mk a b l).may 0 pa t = true
     ·rw [if_pos hm] at hbl2 hk
      rw [hm] at hk2
      refine goh (And.intro hk hk2) ?_
      refine W_cnd ?_ ?_ <;> intro hlit <;> try (cases hlit; done)
      refine goh trivial ?_
      exact finh [some 3, some 4, some 5] hbl2
     ·rw [if_neg hm] at hbl2 hk
      rw [show (Dk.mk a b l).may 0 pa t = false by simpa using hm] at hk2
      refine goh (And.intro hk hk2) ?_
      refine W_cnd ?_ ?_ <;> intro hlit <;> try (cases hlit; done)
      refine goh trivial ?_
      exact finh [some 7, some 8, some 9] hbl2
    ·have hbl2 : blkHeal ⟨a, b, l⟩ ⟨pa, ps, pb⟩ = if (Dk.mk a b l).may 1 pa t = true then ((Dk.mk a b l).add 1 pa t, 0) else (⟨a, b, l⟩, 2) := hbl
     clear hbl
     have hk : dkWrite ⟨a, b, l⟩ 1 pa t = if (Dk.mk a b l).may 1 pa t = true then (Dk.mk a b l).add 1 pa t else ⟨a, b, l⟩ := by unfold dkWrite; rw [if_pos hok]
     have hk2 : dkWrites ⟨a, b, l⟩ 1 pa t = (Dk.mk a b l).may 1 pa t := by unfold dkWrites; rw [hok]; rfl
     refine goh (And.intro hcode (And.intro s0 (And.intro s1 (And.intro ht (And.intro cb1 cb2))))) ?_
     refine W_cnd ?_ ?_ <;> intro hlit <;> try (cases hlit; done)
     refine goh trivial ?_
     refine W_cnd ?_ ?_ <;> intro hlit <;> try (cases hlit; done)
     by_cases hm : (Dk.mk a b l).may 1 pa t = true
     ·rw [if_pos hm] at hbl2 hk
      rw [hm] at hk2
      refine goh (And.intro hk hk2) ?_
      refine W_cnd ?_ ?_ <;> intro hlit <;> try (cases hlit; done)
      refine goh trivial ?_
      exact finh [some 3, some 4, some 5] hbl2
     ·rw [if_neg hm] at hbl2 hk
      rw [show (Dk.mk a b l).may 1 pa t = false by simpa using hm] at hk2
      refine goh (And.intro hk hk2) ?_
      refine W_cnd ?_ ?_ <;> intro hlit <;> try (cases hlit; done)
      refine goh trivial ?_
      exact finh [some 7, some 8, some 9] hbl2
    ·have hbl2 : blkHeal ⟨a, b, l⟩ ⟨pa, ps, pb⟩ = (⟨a, b, l⟩, 0) := hbl
     refine goh (And.intro hcode (And.intro s0 s1)) ?_
     refine W_cnd ?_ ?_ <;> intro hlit <;> try (cases hlit; done)
     refine goh trivial ?_
     exact finh [some 3, some 4, some 5] hbl2
   ·have e1 : blkHeal ⟨a, b, l⟩ ⟨pa, ps, pb⟩ = (⟨a, b, l⟩, (blkRead ⟨a, b, l⟩ ⟨pa, ps, pb⟩).2) := by unfold blkHeal; rw [if_pos hok, if_pos (.inl hcode)]
    have c1 : ((blkRead ⟨a, b, l⟩ ⟨pa, ps, pb⟩).2 != 0) = true := by simp [hcode]
    repeat' first
     | with_reducible refine red ?_
     | refine W_seq ?_
     | (refine W_reg (s_specHeal_K.env []) s_specHeal_lv fun K' hK' => ?_
        simp only [go_sem, Dk.small, c1, ite_self, ↓reduceIte, ↓reduceDIte, reduceCtorEq, Nat.reduceAdd, Nat.reduceMul, Nat.reduceSub, Nat.reduceDiv, Nat.reduceMod, Nat.reduceLT, Nat.reduceLeDiff, Nat.reduceEqDiff, Nat.reduceBEq, Int.reduceToNat, Int.reduceLE, Int.reduceLT, Int.reduceEq, Int.reduceNe, Int.reduceNeg]
        (repeat' refine And.intro ?_ ?_) <;> try first | with_reducible refine hK' ?_ | exact shut6)
     | with_reducible refine blockG_o (by decide) ?_
    refine W_cnd ?_ ?_ <;> intro hlit <;> try (cases hlit; done)
    refine goh trivial ?_
    exact finh [some 3, some 4, some 5] e1
 ·simp [no, ifp] at hp
end Go.Proofs.YtfmjgoeclilcnaaGreatDoor
namespace Go.Proofs.YtfmjgoeclilcnaaGreatDoor
open Go.RowKit
@[go_sem] noncomputable def ctBadPtr : Ct := ⟨false, [], fun args os => match args, os with
  | [.agg [.val (.int .i64 a), .val (.int .i64 s), .val (.int .i64 b)]], [] => is (vb (badPtr ⟨a, s, b⟩))
  | _, _ => no⟩
theorem s_setOk1_e : EnterOk Tryz.prog 200 := ⟨_, Tryz.func200, rfl, by decide⟩
@[go_sem] def s_setOk1_lv : List (List Nat) := [[1], [2]]
@[go_sem] noncomputable def s_setOk1_K : Known := (Known.nil).cons 165 ctPtrOk s_ptrOk s_ptrOk_e
set_option maxHeartbeats 8000000 in
theorem s_setOk1 : Sound Tryz.prog 200 ctBadPtr := by
 have ke := s_setOk1_K.env []
 have kl : Lives s_setOk1_lv := trivial
 refine sound_intro (E := ⟨ti, s_setOk1_K.Γ, []⟩) ke Tryz.func200 Tryz.ntmps200 rfl (rs := [.tmp 2]) rfl ?_
 intro args os hp
 unfold ctBadPtr at hp ⊢
 dsimp only at hp ⊢
 split at hp
 ·rename_i a s b
  refine ⟨by simp, fun φ0 w0 => ?_⟩
  refine goh trivial ?_
  refine ⟨by (simp only [go_sem, badPtr, ↓reduceIte, reduceCtorEq, Nat.reduceAdd, Nat.reduceLT, Nat.reduceLeDiff, Nat.reduceEqDiff]) <;> trivial, [], ?_⟩
  all_goals try simp only [go_sem, badPtr, inj_r, ↓reduceIte, reduceCtorEq, Nat.reduceAdd, Nat.reduceLT, Nat.reduceLeDiff, Nat.reduceEqDiff, Int.reduceEq]
  all_goals (repeat' refine And.intro ?_ ?_) <;> try exact shut7
 ·simp [no, is] at hp
@[go_sem] noncomputable def ctPartBad : Ct := ⟨false, [], fun args os => match args, os with
  | [.agg [.val (.int .i64 a), .val (.int .i64 s), .val (.int .i64 b)]], [] => is (vb (partBad ⟨a, s, b⟩))
  | _, _ => no⟩
theorem s_coreOk1_e : EnterOk Tryz.prog 139 := ⟨_, Tryz.func139, rfl, by decide⟩
@[go_sem] def s_coreOk1_lv : List (List Nat) := [[1], [2]]
@[go_sem] noncomputable def s_coreOk1_K : Known := (Known.nil).cons 96 ctReal s_isReal s_isReal_e
set_option maxHeartbeats 8000000 in
theorem s_coreOk1 : Sound Tryz.prog 139 ctPartBad := by
 have ke := s_coreOk1_K.env []
 have kl : Lives s_coreOk1_lv := trivial
 refine sound_intro (E := ⟨ti, s_coreOk1_K.Γ, []⟩) ke Tryz.func139 Tryz.ntmps139 rfl (rs := [.tmp 2]) rfl ?_
 intro args os hp
 unfold ctPartBad at hp ⊢
 dsimp only at hp ⊢
 split at hp
 ·rename_i a s b
  refine ⟨by simp, fun φ0 w0 => ?_⟩
  refine goh trivial ?_
  refine ⟨by (simp only [go_sem, partBad, ↓reduceIte, reduceCtorEq, Nat.reduceAdd, Nat.reduceLT, Nat.reduceLeDiff, Nat.reduceEqDiff]) <;> trivial, [], ?_⟩
  all_goals try simp only [go_sem, partBad, inj_r, ↓reduceIte, reduceCtorEq, Nat.reduceAdd, Nat.reduceLT, Nat.reduceLeDiff, Nat.reduceEqDiff, Int.reduceEq]
  all_goals (repeat' refine And.intro ?_ ?_) <;> try exact shut7
 ·simp [no, is] at hp
@[go_sem] noncomputable def ctIxBadPtr : Ct := ⟨false, [[some .ptr]], fun args os => match args, os with
  | [.one (.isl .ptr xs), .one (.fn 200 [])], [] => ifp (xs.length ≤ 4000000) (vi (firstAt badPtr xs))
  | _, _ => no⟩
theorem s_ixBadPtr_e : EnterOk Tryz.prog 198 := ⟨_, Tryz.func198, rfl, by decide⟩
@[go_sem] def s_ixBadPtr_lv : List (List Nat) := [[0, 1], [0, 1, 7, 8], [0, 1, 7, 8, 9], [0, 1, 5, 7, 8], [0, 1, 5, 7, 8, 16], [4], [0, 1, 7, 8], [4]]
@[go_sem] noncomputable def s_ixBadPtr_K : Known := (Known.nil).cons 200 ctBadPtr s_setOk1 s_setOk1_e
set_option maxHeartbeats 8000000 in
theorem s_ixBadPtr : Sound Tryz.prog 198 ctIxBadPtr := by
 have ke := s_ixBadPtr_K.env []
 have kl : Lives s_ixBadPtr_lv := trivial
 refine sound_intro (E := ⟨ti, s_ixBadPtr_K.Γ, []⟩) ke Tryz.func198 Tryz.ntmps198 rfl (rs := [.tmp 4]) rfl ?_
 intro args os hp
 unfold ctIxBadPtr at hp ⊢
 dsimp only at hp ⊢
 split at hp
 ·rename_i xs
  refine ⟨by simp, fun φ0 w0 => ?_⟩
  have hlen : xs.length ≤ 4000000 := hp
  refine goh trivial ?_
  refine W_for xs.length (fun i => ∀ j, j < i → badPtr (xs.getD j ET.ptr.dflt) = false) (fun i => ⟨[(8, vi i), (7, vi xs.length), (0, .one (.isl .ptr xs)), (1, .one (.fn 200 []))], [], []⟩) [] (leh trivial) (by omega) fun i hi hb => ?_
  refine goh trivial ?_
  refine W_cnd ?_ ?_ <;> (try simp only [cnd_r]) <;> intro hlt
  ·refine goh trivial ?_
   refine W_cnd ?_ ?_ <;> (try simp only [cnd_r]) <;> intro hl
   ·have e : firstAt badPtr xs = i := firstAt_some (d := ET.ptr.dflt) (by omega) hb hl
    refine goh trivial ?_
    exact finh [] e
   ·refine goh trivial ?_
    exact ⟨[], by omega, leh trivial, fun j hj => by
     rcases Nat.lt_succ_iff_lt_or_eq.1 hj with h | rfl
     ·exact hb j h
     ·exact hl⟩
  ·have e : firstAt badPtr xs = -1 := firstAt_none (d := ET.ptr.dflt) fun j hj => hb j (by omega)
   refine goh trivial ?_
   exact finh [] e
 ·simp [no, ifp] at hp
@[go_sem] noncomputable def ctHasBadPtr : Ct := ⟨false, [[some .ptr]], fun args os => match args, os with
  | [.one (.isl .ptr xs), .one (.fn 200 [])], [] => ifp (xs.length ≤ 4000000) (vb (xs.any badPtr))
  | _, _ => no⟩
theorem s_hasBadPtr_e : EnterOk Tryz.prog 138 := ⟨_, Tryz.func138, rfl, by decide⟩
@[go_sem] def s_hasBadPtr_lv : List (List Nat) := [[0, 1], [4]]
@[go_sem] noncomputable def s_hasBadPtr_K : Known := (Known.nil).cons 198 ctIxBadPtr s_ixBadPtr s_ixBadPtr_e
set_option maxHeartbeats 8000000 in
theorem s_hasBadPtr : Sound Tryz.prog 138 ctHasBadPtr := by
 have ke := s_hasBadPtr_K.env []
 have kl : Lives s_hasBadPtr_lv := trivial
 refine sound_intro (E := ⟨ti, s_hasBadPtr_K.Γ, []⟩) ke Tryz.func138 Tryz.ntmps138 rfl (rs := [.tmp 4]) rfl ?_
 intro args os hp
 unfold ctHasBadPtr at hp ⊢
 dsimp only at hp ⊢
 split at hp
 ·rename_i xs
  refine ⟨by simp, fun φ0 w0 => ?_⟩
  have hlen : xs.length ≤ 4000000 := hp
  refine goh trivial ?_
  refine ⟨by (simp only [go_sem, ↓reduceIte, reduceCtorEq, Nat.reduceAdd, Nat.reduceLT, Nat.reduceLeDiff, Nat.reduceEqDiff]) <;> trivial, [], ?_⟩
  all_goals try simp only [go_sem, inj_r, ↓reduceIte, reduceCtorEq, Nat.reduceAdd, Nat.reduceLT, Nat.reduceLeDiff, Nat.reduceEqDiff, Int.reduceEq]
  all_goals (repeat' refine And.intro ?_ ?_) <;> try exact shut7
  exact firstAt_ge _ _
 ·simp [no, ifp] at hp
@[go_sem] noncomputable def ctIxPart : Ct := ⟨false, [[some .ptr]], fun args os => match args, os with
  | [.one (.isl .ptr xs), .one (.fn 139 [])], [] => ifp (xs.length ≤ 4000000) (vi (firstAt partBad xs))
  | _, _ => no⟩
theorem s_ixPart_e : EnterOk Tryz.prog 198 := ⟨_, Tryz.func198, rfl, by decide⟩
@[go_sem] def s_ixPart_lv : List (List Nat) := [[0, 1], [0, 1, 7, 8], [0, 1, 7, 8, 9], [0, 1, 5, 7, 8], [0, 1, 5, 7, 8, 16], [4], [0, 1, 7, 8], [4]]
@[go_sem] noncomputable def s_ixPart_K : Known := (Known.nil).cons 139 ctPartBad s_coreOk1 s_coreOk1_e
set_option maxHeartbeats 8000000 in
theorem s_ixPart : Sound Tryz.prog 198 ctIxPart := by
 have ke := s_ixPart_K.env []
 have kl : Lives s_ixPart_lv := trivial
 refine sound_intro (E := ⟨ti, s_ixPart_K.Γ, []⟩) ke Tryz.func198 Tryz.ntmps198 rfl (rs := [.tmp 4]) rfl ?_
 intro args os hp
 unfold ctIxPart at hp ⊢
 dsimp only at hp ⊢
 split at hp
 ·rename_i xs
  refine ⟨by simp, fun φ0 w0 => ?_⟩
  have hlen : xs.length ≤ 4000000 := hp
  refine goh trivial ?_
  refine W_for xs.length (fun i => ∀ j, j < i → partBad (xs.getD j ET.ptr.dflt) = false) (fun i => ⟨[(8, vi i), (7, vi xs.length), (0, .one (.isl .ptr xs)), (1, .one (.fn 139 []))], [], []⟩) [] (leh trivial) (by omega) fun i hi hb => ?_
  refine goh trivial ?_
  refine W_cnd ?_ ?_ <;> (try simp only [cnd_r]) <;> intro hlt
  ·refine goh trivial ?_
   refine W_cnd ?_ ?_ <;> (try simp only [cnd_r]) <;> intro hl
   ·have e : firstAt partBad xs = i := firstAt_some (d := ET.ptr.dflt) (by omega) hb hl
    refine goh trivial ?_
    exact finh [] e
   ·refine goh trivial ?_
    exact ⟨[], by omega, leh trivial, fun j hj => by
     rcases Nat.lt_succ_iff_lt_or_eq.1 hj with h | rfl
     ·exact hb j h
     ·exact hl⟩
  ·have e : firstAt partBad xs = -1 := firstAt_none (d := ET.ptr.dflt) fun j hj => hb j (by omega)
   refine goh trivial ?_
   exact finh [] e
 ·simp [no, ifp] at hp
@[go_sem] noncomputable def ctHasPart : Ct := ⟨false, [[some .ptr]], fun args os => match args, os with
  | [.one (.isl .ptr xs), .one (.fn 139 [])], [] => ifp (xs.length ≤ 4000000) (vb (xs.any partBad))
  | _, _ => no⟩
theorem s_hasPart_e : EnterOk Tryz.prog 138 := ⟨_, Tryz.func138, rfl, by decide⟩
@[go_sem] def s_hasPart_lv : List (List Nat) := [[0, 1], [4]]
@[go_sem] noncomputable def s_hasPart_K : Known := (Known.nil).cons 198 ctIxPart s_ixPart s_ixPart_e
set_option maxHeartbeats 8000000 in
theorem s_hasPart : Sound Tryz.prog 138 ctHasPart := by
 have ke := s_hasPart_K.env []
 have kl : Lives s_hasPart_lv := trivial
 refine sound_intro (E := ⟨ti, s_hasPart_K.Γ, []⟩) ke Tryz.func138 Tryz.ntmps138 rfl (rs := [.tmp 4]) rfl ?_
 intro args os hp
 unfold ctHasPart at hp ⊢
 dsimp only at hp ⊢
 split at hp
 ·rename_i xs
  refine ⟨by simp, fun φ0 w0 => ?_⟩
  have hlen : xs.length ≤ 4000000 := hp
  refine goh trivial ?_
  refine ⟨by (simp only [go_sem, ↓reduceIte, reduceCtorEq, Nat.reduceAdd, Nat.reduceLT, Nat.reduceLeDiff, Nat.reduceEqDiff]) <;> trivial, [], ?_⟩
  all_goals try simp only [go_sem, inj_r, ↓reduceIte, reduceCtorEq, Nat.reduceAdd, Nat.reduceLT, Nat.reduceLeDiff, Nat.reduceEqDiff, Int.reduceEq]
  all_goals (repeat' refine And.intro ?_ ?_) <;> try exact shut7
  exact firstAt_ge _ _
 ·simp [no, ifp] at hp
structure CSet.small (s : CSet) : Prop where
 name : s.name.size ≤ 9223372036854775807
 from_ : s.from_.size ≤ 9223372036854775807
@[go_sem] noncomputable def ctSetOk : Ct := ⟨false, [], fun args os => match args, os with
  | [.agg cs], [] => (match csetOf cs with | some s => ifp s.small (vb (csetB s)) | none => no)
  | _, _ => no⟩
theorem s_setOk_e : EnterOk Tryz.prog 142 := ⟨_, Tryz.func142, rfl, by decide⟩
@[go_sem] def s_setOk_lv : List (List Nat) := [[1], [1, 33], [2], [2]]
@[go_sem] noncomputable def s_setOk_K : Known := ((((Known.nil).cons 189 ctName s_bookName s_bookName_e).cons 165 ctPtrOk s_ptrOk s_ptrOk_e).cons 138 ctHasBadPtr s_hasBadPtr s_hasBadPtr_e).cons 200 ctBadPtr s_setOk1 s_setOk1_e
set_option maxHeartbeats 8000000 in
theorem s_setOk : Sound Tryz.prog 142 ctSetOk := by
 have ke := s_setOk_K.env []
 have kl : Lives s_setOk_lv := trivial
 refine sound_intro (E := ⟨ti, s_setOk_K.Γ, []⟩) ke Tryz.func142 Tryz.ntmps142 rfl (rs := [.tmp 2]) rfl ?_
 intro args os hp
 unfold ctSetOk at hp ⊢
 dsimp only at hp ⊢
 split at hp
 ·rename_i cs
  split at hp
  ·rename_i s hs
   obtain rfl := csetOf_some hs
   obtain ⟨h1, h2⟩ : s.small := hp
   clear hs
   refine ⟨by simp, fun φ0 w0 => ?_⟩
   refine goh trivial ?_
   refine W_cnd ?_ ?_ <;> (try simp only [cnd_r]) <;> intro hc
   ·have e := csetB_no hc
    refine goh trivial ?_
    exact finh [] e
   ·have e := csetB_yes hc
    simp only [Eight.list, List.any_cons, List.any_nil, Bool.or_false] at e
    refine goh trivial ?_
    exact finh [] e
  ·simp [no] at hp
 ·simp [no] at hp
theorem s_l6Set_e : EnterOk Tryz.prog 115 := ⟨_, Tryz.func115, rfl, by decide⟩
@[go_sem] def s_l6Set_lv : List (List Nat) := [[1], [1, 34], [2], [1, 3], [1, 3, 36], [1, 3], [1, 3, 44], [2], [2]]
@[go_sem] noncomputable def s_l6Set_K : Known := ((Known.nil).cons 175 ctName s_specName s_specName_e).cons 87 ctPtrOk s_specPtrOk s_specPtrOk_e
set_option maxHeartbeats 8000000 in
theorem s_l6Set : Sound Tryz.prog 115 ctSetOk := by
 have ke := s_l6Set_K.env []
 have kl : Lives s_l6Set_lv := trivial
 refine sound_intro (E := ⟨ti, s_l6Set_K.Γ, []⟩) ke Tryz.func115 Tryz.ntmps115 rfl (rs := [.tmp 2]) rfl ?_
 intro args os hp
 unfold ctSetOk at hp ⊢
 dsimp only at hp ⊢
 split at hp
 ·rename_i cs
  split at hp
  ·rename_i s hs
   obtain rfl := csetOf_some hs
   obtain ⟨h1, h2⟩ : s.small := hp
   clear hs
   refine ⟨by simp, fun φ0 w0 => ?_⟩
   refine goh trivial ?_
   refine W_cnd ?_ ?_ <;> (try simp only [cnd_r]) <;> intro hc
   ·have e : csetB s = false := csetB_no (by
     rcases hc with ((h | h) | h) | h
     ·exact .inl (.inl h)
     ·exact .inl (.inr (by omega))
     ·exact .inl (.inr (by omega))
     ·exact .inr h)
    refine goh trivial ?_
    exact finh [] e
   ·have e : csetB s = !s.map.list.any badPtr := csetB_yes ⟨⟨hc.1.1.1, fun _ => by omega⟩, hc.2⟩
    refine goh trivial ?_
    refine W_for 8 (fun i => (s.map.list.take i).any badPtr = false) (fun i => ⟨[(1, .one (.ptr 0 0)), (3, vi i)], [some (.cells ((ET.cset.cells s).map .val))], []⟩) [some 0] (leh trivial) rfl fun i hi hb => ?_
    rcases (show i < 8 ∨ i = 8 by omega) with hi8 | hc8
    ·rcases (show i = 0 ∨ i = 1 ∨ i = 2 ∨ i = 3 ∨ i = 4 ∨ i = 5 ∨ i = 6 ∨ i = 7 by omega) with hc8 | hc8 | hc8 | hc8 | hc8 | hc8 | hc8 | hc8
     all_goals
      subst hc8
      refine goh trivial ?_
      refine W_cnd ?_ ?_ <;> intro hlit <;> try (cases hlit; done)
      refine goh trivial ?_
      refine W_cnd ?_ ?_ <;> (try simp only [cnd_r]) <;> intro hl
      ·have e : csetB s = false := by
        rw [e]
        simp only [Eight.list, List.any_cons, List.any_nil, Bool.or_false, badPtr, hl, Bool.not_false, Bool.true_or, Bool.or_true, Bool.not_true]
       refine goh trivial ?_
       exact finh [] e
      ·refine goh trivial ?_
       exact ⟨[some 0], by omega, leh trivial, by
        simp only [Eight.list, List.take_succ_cons, List.take_zero, List.any_cons, List.any_nil, Bool.or_false, badPtr, Bool.or_eq_false_iff] at hb ⊢
        simp only [hb, hl, Bool.not_true, and_self]⟩
    ·subst hc8
     have e : csetB s = true := by rw [e, show s.map.list = s.map.list.take 8 from rfl, hb]; rfl
     refine goh trivial ?_
     refine W_cnd ?_ ?_ <;> intro hlit <;> try (cases hlit; done)
     refine goh trivial ?_
     exact finh [] e
  ·simp [no] at hp
 ·simp [no] at hp
end Go.Proofs.YtfmjgoeclilcnaaGreatDoor
namespace Go.Proofs.YtfmjgoeclilcnaaGreatDoor
open Go.RowKit
@[go_sem] noncomputable def ctFrame : Ct := ⟨false, [[none, some .cset, some .ent, some .ptr, none, some .int, none]], fun args os => match args, os with
  | [.agg [.val (.int .i64 txg), .isl .cset cs, .isl .ent es, .isl .ptr ps, .val (.bool dirty), .isl .int zs, .val (.int .i64 logn)]], [] => ⟨cs.length ≤ 4000000, .agg [.osl .bset 0 0 (frameOf cs).length], [], [.arr .bset (frameOf cs)]⟩
  | _, _ => no⟩
attribute [go_sem] Eight.rep
theorem frame_takes (cs : List CSet) (i : Nat) : (frameOf (cs.take i)).take i = frameOf (cs.take i) := List.take_of_length_le (by rw [frame_len, List.length_take]; omega)
theorem frame_end {cs : List CSet} {i : Nat} (h : cs.length ≤ i) : frameOf (cs.take i) = frameOf cs := by rw [List.take_of_length_le h]
theorem s_frame_e : EnterOk Tryz.prog 133 := ⟨_, Tryz.func133, rfl, by decide⟩
@[go_sem] def s_frame_lv : List (List Nat) := [[1, 2], [1, 2, 3], [2, 3, 7, 8, 9], [2, 3, 7, 8, 9, 10], [2, 3, 5, 7, 8, 9], [2, 3, 7, 8, 9], [2, 3, 7, 8, 9], [2]]
@[go_sem] noncomputable def s_frame_K : Known := Known.nil
set_option maxHeartbeats 8000000 in
theorem s_frame : Sound Tryz.prog 133 ctFrame := by
 have ke := s_frame_K.env []
 have kl : Lives s_frame_lv := trivial
 refine sound_intro (E := ⟨ti, s_frame_K.Γ, []⟩) ke Tryz.func133 Tryz.ntmps133 rfl (rs := [.cell 2 144]) rfl ?_
 intro args os hp
 unfold ctFrame at hp ⊢
 dsimp only at hp ⊢
 split at hp
 ·rename_i txg cs es ps dirty zs logn
  refine ⟨by simp, fun φ0 w0 => ?_⟩
  have hlen : cs.length ≤ 4000000 := hp
  refine goh trivial ?_
  refine W_for cs.length (fun i => True) (fun i => ⟨[(2, .one (.ptr 0 0)), (3, .one (.ptr 1 0)), (7, .one (.isl .cset cs)), (8, vi cs.length), (9, vi i)], [some (.cells [.val (.slice none 0 0)]), some (.cells [.osl .bset 2 0 i]), some (.arr .bset (frameOf (cs.take i)))], []⟩) [some 1, some 2, none] (leh trivial) trivial fun i hi _ => ?_
  refine goh trivial ?_
  refine W_cnd ?_ ?_ <;> (try simp only [cnd_r]) <;> intro hlt
  ·have hk := frame_take (show i < cs.length by omega)
   have hl : (frameOf (cs.take i)).length = i := by rw [frame_len, List.length_take]; omega
   refine goh hl ?_
   exact ⟨[some 0, some 1, some 5], by omega, leh (And.intro (frame_takes cs i) hk), trivial⟩
  ·have e := frame_end (show cs.length ≤ i by omega)
   obtain rfl : i = cs.length := by omega
   refine goh trivial ?_
   exact finh [some 2] (And.intro e ((frame_len cs)))
 ·simp [no, ifp] at hp
theorem s_l6Names_e : EnterOk Tryz.prog 110 := ⟨_, Tryz.func110, rfl, by decide⟩
@[go_sem] def s_l6Names_lv : List (List Nat) := [[1, 2], [1, 2, 3], [1, 2, 3, 4], [1, 2, 3, 4, 10], [1, 2, 3, 4], [1, 2, 3, 4], [2]]
@[go_sem] noncomputable def s_l6Names_K : Known := Known.nil
set_option maxHeartbeats 8000000 in
theorem s_l6Names : Sound Tryz.prog 110 ctFrame := by
 have ke := s_l6Names_K.env []
 have kl : Lives s_l6Names_lv := trivial
 refine sound_intro (E := ⟨ti, s_l6Names_K.Γ, []⟩) ke Tryz.func110 Tryz.ntmps110 rfl (rs := [.cell 2 144]) rfl ?_
 intro args os hp
 unfold ctFrame at hp ⊢
 dsimp only at hp ⊢
 split at hp
 ·rename_i txg cs es ps dirty zs logn
  refine ⟨by simp, fun φ0 w0 => ?_⟩
  have hlen : cs.length ≤ 4000000 := hp
  refine goh trivial ?_
  refine W_for cs.length (fun i => True) (fun i => ⟨[(1, .one (.ptr 0 0)), (2, .one (.ptr 1 0)), (3, .one (.ptr 2 0)), (4, vi i)], [some (.cells [.val (.int .i64 txg), .isl .cset cs, .isl .ent es, .isl .ptr ps, .val (.bool dirty), .isl .int zs, .val (.int .i64 logn)]), some (.cells [.val (.slice none 0 0)]), some (.cells [.osl .bset 3 0 i]), some (.arr .bset (frameOf (cs.take i)))], []⟩) [some 0, some 1, some 2, none] (leh trivial) trivial fun i hi _ => ?_
  refine goh trivial ?_
  refine W_cnd ?_ ?_ <;> (try simp only [cnd_r]) <;> intro hlt
  ·have hk := frame_take (show i < cs.length by omega)
   have hl : (frameOf (cs.take i)).length = i := by rw [frame_len, List.length_take]; omega
   refine goh hl ?_
   exact ⟨[some 0, some 1, some 2, some 5], by omega, leh (And.intro (frame_takes cs i) hk), trivial⟩
  ·have e := frame_end (show cs.length ≤ i by omega)
   obtain rfl : i = cs.length := by omega
   refine goh trivial ?_
   exact finh [some 3] (And.intro e ((frame_len cs)))
 ·simp [no, ifp] at hp
end Go.Proofs.YtfmjgoeclilcnaaGreatDoor
namespace Go.Proofs.YtfmjgoeclilcnaaGreatDoor
open Go.RowKit
@[go_sem] noncomputable def ctRefs : Ct := ⟨false, [[none, some .cset, some .ent, some .ptr, none, some .int, none]], fun args os => match args, os with
  | [.agg [.val (.int .i64 txg), .isl .cset cs, .isl .ent es, .isl .ptr ps, .val (.bool dirty), .isl .int zs, .val (.int .i64 logn)], .one (.val (.int .i64 a))], [] => ifp (cs.length ≤ 4000000) (vi (rcnt (refsP cs) a))
  | _, _ => no⟩
@[go_sem] def obCo (txg : Int) (cs : List CSet) (es : List Ent) (ps : List Ptr) (dirty : Bool) (zs : List Int) (logn : Int) : Obj := .cells [.val (.int .i64 txg), .isl .cset cs, .isl .ent es, .isl .ptr ps, .val (.bool dirty), .isl .int zs, .val (.int .i64 logn)]
theorem s_l6Refs_e : EnterOk Tryz.prog 180 := ⟨_, Tryz.func180, rfl, by decide⟩
@[go_sem] def s_l6Refs_lv : List (List Nat) := [[1, 2], [1, 2, 5], [1, 2, 5, 6], [1, 2, 5, 6, 12], [1, 2, 5, 6], [1, 2, 5, 6, 7], [1, 2, 5, 6, 7, 16], [1, 2, 5, 6, 7], [1, 2, 5, 6, 7, 33], [1, 2, 5, 6, 7], [4]]
@[go_sem] noncomputable def s_l6Refs_K : Known := Known.nil
set_option maxHeartbeats 8000000 in
theorem s_l6Refs : Sound Tryz.prog 180 ctRefs := by
 have ke := s_l6Refs_K.env []
 have kl : Lives s_l6Refs_lv := trivial
 refine sound_intro (E := ⟨ti, s_l6Refs_K.Γ, []⟩) ke Tryz.func180 Tryz.ntmps180 rfl (rs := [.tmp 4]) rfl ?_
 intro args os hp
 unfold ctRefs at hp ⊢
 dsimp only at hp ⊢
 split at hp
 ·rename_i txg cs es ps dirty zs logn a
  refine ⟨by simp, fun φ0 w0 => ?_⟩
  have hlen : cs.length ≤ 4000000 := hp
  refine goh trivial ?_
  refine W_for cs.length (fun i => True) (fun i => ⟨[(1, vi a), (2, .one (.ptr 0 0)), (5, vi (rcnt (refsP (cs.take i)) a)), (6, vi i)], [some (obCo txg cs es ps dirty zs logn)], []⟩) [some 0] (leh (rcnt_nil a)) trivial fun i hi _ => ?_
  refine goh trivial ?_
  refine W_cnd ?_ ?_ <;> (try simp only [cnd_r]) <;> intro hlt
  ·refine goh trivial ?_
   have h0 := ptrsTo_zero cs i
   refine W_for 8 (fun j => True) (fun j => ⟨[(1, vi a), (2, .one (.ptr 0 0)), (5, vi (rcnt (ptrsTo cs i j) a)), (6, vi i), (7, vi j)], [some (obCo txg cs es ps dirty zs logn)], []⟩) [some 0] (leh h0) trivial fun j hj _ => ?_
   rcases (show j < 8 ∨ j = 8 by omega) with hi8 | hc8
   ·have hn := ptrsTo_next cs i hi8
    have hl := ptrsTo_len cs i j
    have hr2 := rcnt_le (ptrsTo cs i j) a
    have hw := wrap_id (rcnt (ptrsTo cs i j) a + 1) (by omega) (by omega)
    rcases (show j = 0 ∨ j = 1 ∨ j = 2 ∨ j = 3 ∨ j = 4 ∨ j = 5 ∨ j = 6 ∨ j = 7 by omega) with hc8 | hc8 | hc8 | hc8 | hc8 | hc8 | hc8 | hc8
    all_goals
     subst hc8
     refine goh trivial ?_
     refine W_cnd ?_ ?_ <;> intro hlit <;> try (cases hlit; done)
     refine goh trivial ?_
     refine W_cnd ?_ ?_ <;> (try simp only [cnd_r]) <;> intro hx
     ·have hr := (congrArg (rcnt · a) hn).trans (rcnt_yes hx)
      simp only [Nat.reduceAdd] at hr
      refine goh hw ?_
      exact ⟨[some 0], by omega, leh hr, trivial⟩
     ·have hr := (congrArg (rcnt · a) hn).trans (rcnt_no hx)
      simp only [Nat.reduceAdd] at hr
      refine goh trivial ?_
      exact ⟨[some 0], by omega, leh hr, trivial⟩
   ·subst hc8
    have he := ptrsTo_end (show i < cs.length by omega)
    refine goh trivial ?_
    refine W_cnd ?_ ?_ <;> intro hlit <;> try (cases hlit; done)
    refine goh trivial ?_
    exact ⟨[some 0], by omega, leh he, trivial⟩
  ·have e := refs_end (show cs.length ≤ i by omega)
   refine goh trivial ?_
   exact finh [] e
 ·simp [no, ifp] at hp
@[go_sem] noncomputable def ctCountsS : Ct := ⟨false, [[none, some .cset, some .ent, some .ptr, none, some .int, none]], fun args os => match args, os with
  | [.agg [.val (.int .i64 txg), .isl .cset cs, .isl .ent es, .isl .ptr ps, .val (.bool dirty), .isl .int zs, .val (.int .i64 logn)]], [] => ifp (cs.length ≤ 4000000 ∧ es.length ≤ 48) (vb (countsS (refsP cs) es))
  | _, _ => no⟩
theorem s_l6Counts_e : EnterOk Tryz.prog 116 := ⟨_, Tryz.func116, rfl, by decide⟩
@[go_sem] def s_l6Counts_lv : List (List Nat) := [[1], [1, 3], [1, 3, 4], [1, 3, 4, 11], [1, 3, 4], [1, 3, 4, 28], [2], [1, 3, 4], [1, 3, 5], [1, 3, 5, 41], [1, 3, 5], [1, 3, 5, 6], [1, 3, 5, 6, 45], [1, 3, 5, 6], [1, 3, 5, 6, 57], [1, 3, 5, 6], [2]]
@[go_sem] noncomputable def s_l6Counts_K : Known := (Known.nil).cons 180 ctRefs s_l6Refs s_l6Refs_e
set_option maxHeartbeats 8000000 in
theorem s_l6Counts : Sound Tryz.prog 116 ctCountsS := by
 have ke := s_l6Counts_K.env []
 have kl : Lives s_l6Counts_lv := trivial
 refine sound_intro (E := ⟨ti, s_l6Counts_K.Γ, []⟩) ke Tryz.func116 Tryz.ntmps116 rfl (rs := [.tmp 2]) rfl ?_
 intro args os hp
 unfold ctCountsS at hp ⊢
 dsimp only at hp ⊢
 split at hp
 ·rename_i txg cs es ps dirty zs logn
  refine ⟨by simp, fun φ0 w0 => ?_⟩
  obtain ⟨hlen, hes⟩ : cs.length ≤ 4000000 ∧ es.length ≤ 48 := hp
  have hrl := refs_len cs
  refine goh trivial ?_
  refine W_for es.length (fun i => ∀ j, j < i → rcnt (refsP cs) (es.getD j ET.ent.dflt).at_ = (es.getD j ET.ent.dflt).count) (fun i => ⟨[(1, .one (.ptr 0 0)), (3, vi (sumC (es.take i))), (4, vi i)], [some (obCo txg cs es ps dirty zs logn)], []⟩) [some 0] (leh sumC_nil) (by omega) fun i hi hb => ?_
  have hsl := sumC_le (n := 32000000) hi fun j hj => by
   have h1 := hb j hj
   have h2 := rcnt_le (refsP cs) (es.getD j ET.ent.dflt).at_
   omega
  refine goh trivial ?_
  refine W_cnd ?_ ?_ <;> (try simp only [cnd_r]) <;> intro hlt
  ·refine goh trivial ?_
   refine W_cnd ?_ ?_ <;> (try simp only [cnd_r]) <;> intro hx
   ·have e : countsS (refsP cs) es = false := countsS_false.2 fun h => hx (h.1 i (by omega))
    refine goh trivial ?_
    exact finh [] e
   ·have hk := sumC_take (show i < es.length by omega)
    have h2 := rcnt_le (refsP cs) (es.getD i ET.ent.dflt).at_
    have hw := wrap_id (sumC (es.take i) + (es.getD i ET.ent.dflt).count) (by omega) (by omega)
    refine goh hw ?_
    exact ⟨[some 0], by omega, leh hk, fun j hj => by
     rcases Nat.lt_succ_iff_lt_or_eq.1 hj with h | rfl
     ·exact hb j h
     ·exact hx⟩
  ·have hse := sumC_end (show es.length ≤ i by omega)
   rw [hse] at hsl
   have hall : ∀ k, k < es.length → rcnt (refsP cs) (es.getD k ET.ent.dflt).at_ = (es.getD k ET.ent.dflt).count := fun k hk => hb k (by omega)
   refine goh hse ?_
   have hp0 : sumC es - ((posN (refsP []) : Nat) : Int) = sumC es := by rw [refs_nil]; simp [posN]
   refine W_for cs.length (fun i => True) (fun i => ⟨[(1, .one (.ptr 0 0)), (3, vi (sumC es - posN (refsP (cs.take i)))), (5, vi i)], [some (obCo txg cs es ps dirty zs logn)], []⟩) [some 0] (leh hp0) trivial fun i hi _ => ?_
   refine goh trivial ?_
   refine W_cnd ?_ ?_ <;> (try simp only [cnd_r]) <;> intro hlt
   ·refine goh trivial ?_
    have h0 := ptrsTo_zero cs i
    refine W_for 8 (fun j => True) (fun j => ⟨[(1, .one (.ptr 0 0)), (3, vi (sumC es - posN (ptrsTo cs i j))), (5, vi i), (6, vi j)], [some (obCo txg cs es ps dirty zs logn)], []⟩) [some 0] (leh h0) trivial fun j hj _ => ?_
    rcases (show j < 8 ∨ j = 8 by omega) with hi8 | hc8
    ·have hn := ptrsTo_next cs i hi8
     have hl := ptrsTo_len cs i j
     have hr2 := posN_le (ptrsTo cs i j)
     have hw := wrap_id (sumC es - posN (ptrsTo cs i j) - 1) (by omega) (by omega)
     have ha : ∀ q : Int, q = posN (ptrsTo cs i j) + 1 → sumC es - posN (ptrsTo cs i j) - 1 = sumC es - q := fun q hq => by omega
     rcases (show j = 0 ∨ j = 1 ∨ j = 2 ∨ j = 3 ∨ j = 4 ∨ j = 5 ∨ j = 6 ∨ j = 7 by omega) with hc8 | hc8 | hc8 | hc8 | hc8 | hc8 | hc8 | hc8
     all_goals
      subst hc8
      refine goh trivial ?_
      refine W_cnd ?_ ?_ <;> intro hlit <;> try (cases hlit; done)
      refine goh trivial ?_
      refine W_cnd ?_ ?_ <;> (try simp only [cnd_r]) <;> intro hx
      ·have hr := ha _ ((congrArg (fun l => (posN l : Int)) hn).trans (posN_yes hx))
       simp only [Nat.reduceAdd] at hr
       refine goh hw ?_
       exact ⟨[some 0], by omega, leh hr, trivial⟩
      ·have hr := (congrArg posN hn).trans (posN_no hx)
       simp only [Nat.reduceAdd] at hr
       refine goh trivial ?_
       exact ⟨[some 0], by omega, leh hr, trivial⟩
    ·subst hc8
     have he := ptrsTo_end (show i < cs.length by omega)
     refine goh trivial ?_
     refine W_cnd ?_ ?_ <;> intro hlit <;> try (cases hlit; done)
     refine goh trivial ?_
     exact ⟨[some 0], by omega, leh he, trivial⟩
   ·have e := refs_end (show cs.length ≤ i by omega)
    have e2 : countsS (refsP cs) es = (sumC es - posN (refsP cs) == 0) := by
     rw [Bool.eq_iff_iff, countsS_true, beq_iff_eq]
     exact ⟨fun h => by have := h.2; omega, fun h => ⟨hall, by omega⟩⟩
    refine goh e ?_
    exact finh [] e2
 ·simp [no, ifp] at hp
@[go_sem] noncomputable def ctSumsS : Ct := ⟨false, [[none, some .cset, some .ent, some .ptr, none, some .int, none]], fun args os => match args, os with
  | [.agg [.val (.int .i64 txg), .isl .cset cs, .isl .ent es, .isl .ptr ps, .val (.bool dirty), .isl .int zs, .val (.int .i64 logn)]], [] => ifp (cs.length ≤ 4000000 ∧ es.length ≤ 4000000) (vb (sumsS (refsP cs) es))
  | _, _ => no⟩
def PtrSum (es : List Ent) (p : Ptr) : Prop := p.at_ > 0 → thereE es p.at_ = true ∧ (es.getD (lowE es p.at_) ET.ent.dflt).sum = p.sum
theorem ptr_in {cs : List CSet} {i j : Nat} (hi : i < cs.length) (hj : j < 8) : (cs.getD i ET.cset.dflt).map.get j ∈ refsP cs := by
 have h1 : (cs.getD i ET.cset.dflt).map.get j ∈ (cs.getD i ET.cset.dflt).map.list := List.mem_of_mem_take (by rw [list_take _ _ hj]; simp)
 unfold refsP
 rw [List.mem_flatMap]
 exact ⟨_, by simp [hi], h1⟩
theorem s_l6Sums_e : EnterOk Tryz.prog 117 := ⟨_, Tryz.func117, rfl, by decide⟩
@[go_sem] def s_l6Sums_lv : List (List Nat) := [[1], [1, 3], [1, 3, 12], [1, 3], [1, 3, 4], [1, 3, 4, 16], [1, 3, 4], [1, 3, 4, 5], [1, 3, 4, 5, 6, 7], [1, 3, 4, 52], [2], [2]]
@[go_sem] noncomputable def s_l6Sums_K : Known := (Known.nil).cons 181 ctAtE s_l5At s_l5At_e
set_option maxHeartbeats 8000000 in
theorem s_l6Sums : Sound Tryz.prog 117 ctSumsS := by
 have ke := s_l6Sums_K.env []
 have kl : Lives s_l6Sums_lv := trivial
 refine sound_intro (E := ⟨ti, s_l6Sums_K.Γ, []⟩) ke Tryz.func117 Tryz.ntmps117 rfl (rs := [.tmp 2]) rfl ?_
 intro args os hp
 unfold ctSumsS at hp ⊢
 dsimp only at hp ⊢
 split at hp
 ·rename_i txg cs es ps dirty zs logn
  refine ⟨by simp, fun φ0 w0 => ?_⟩
  obtain ⟨hlen, hes⟩ : cs.length ≤ 4000000 ∧ es.length ≤ 4000000 := hp
  refine goh trivial ?_
  refine W_for cs.length (fun i => ∀ p ∈ refsP (cs.take i), PtrSum es p) (fun i => ⟨[(1, .one (.ptr 0 0)), (3, vi i)], [some (obCo txg cs es ps dirty zs logn)], []⟩) [some 0] (leh trivial) (fun p hp => by cases hp) fun i hi hb => ?_
  refine goh trivial ?_
  refine W_cnd ?_ ?_ <;> (try simp only [cnd_r]) <;> intro hlt
  ·refine goh trivial ?_
   refine W_for 8 (fun j => ∀ p ∈ ptrsTo cs i j, PtrSum es p) (fun j => ⟨[(1, .one (.ptr 0 0)), (3, vi i), (4, vi j)], [some (obCo txg cs es ps dirty zs logn)], []⟩) [some 0] (leh trivial) (by rw [ptrsTo_zero]; exact hb) fun j hj hb2 => ?_
   rcases (show j < 8 ∨ j = 8 by omega) with hi8 | hc8
   ·have hn := ptrsTo_next cs i hi8
    have hin := ptr_in (show i < cs.length by omega) hi8
    have hnext : PtrSum es ((cs.getD i ET.cset.dflt).map.get j) → ∀ p ∈ ptrsTo cs i (j + 1), PtrSum es p := fun h p hp => by
     rw [hn, List.mem_append, List.mem_singleton] at hp
     rcases hp with hp | rfl
     ·exact hb2 p hp
     ·exact h
    have hcase : thereE es ((cs.getD i ET.cset.dflt).map.get j).at_ = false ∨ thereE es ((cs.getD i ET.cset.dflt).map.get j).at_ = true ∧ lowE es ((cs.getD i ET.cset.dflt).map.get j).at_ < es.length := by
     cases h : thereE es ((cs.getD i ET.cset.dflt).map.get j).at_ with
     | false => exact .inl rfl
     | true => exact .inr ⟨rfl, (thereE_at h).1⟩
    have hbad : ¬ PtrSum es ((cs.getD i ET.cset.dflt).map.get j) → sumsS (refsP cs) es = false := fun h => sumsS_false.2 fun h2 => h (h2 _ hin)
    rcases (show j = 0 ∨ j = 1 ∨ j = 2 ∨ j = 3 ∨ j = 4 ∨ j = 5 ∨ j = 6 ∨ j = 7 by omega) with hc8 | hc8 | hc8 | hc8 | hc8 | hc8 | hc8 | hc8
    all_goals
     subst hc8
     simp only [Eight.get, Nat.reduceAdd] at hnext hbad hcase
     rcases hcase with ht | ⟨ht, hlow⟩
     ·refine goh trivial ?_
      refine W_cnd ?_ ?_ <;> intro hlit <;> try (cases hlit; done)
      refine goh ht ?_
      refine W_cnd ?_ ?_ <;> (try simp only [cnd_r]) <;> intro hx
      ·have e := hbad fun h => by have := (h hx).1; rw [ht] at this; cases this
       refine goh trivial ?_
       exact finh [] e
      ·refine goh trivial ?_
       exact ⟨[some 0], by omega, leh trivial, hnext fun h => absurd h hx⟩
     ·refine goh trivial ?_
      refine W_cnd ?_ ?_ <;> intro hlit <;> try (cases hlit; done)
      refine goh ht ?_
      refine W_cnd ?_ ?_ <;> (try simp only [cnd_r]) <;> intro hx
      ·have e := hbad fun h => hx.2 (h hx.1).2
       refine goh trivial ?_
       exact finh [] e
      ·refine goh trivial ?_
       exact ⟨[some 0], by omega, leh trivial, hnext fun h => ⟨ht, hx.elim (fun k => absurd h k) id⟩⟩
   ·subst hc8
    have he := ptrsTo_end (show i < cs.length by omega)
    refine goh trivial ?_
    refine W_cnd ?_ ?_ <;> intro hlit <;> try (cases hlit; done)
    refine goh trivial ?_
    exact ⟨[some 0], by omega, leh trivial, by rw [← he]; exact hb2⟩
  ·have e := refs_end (show cs.length ≤ i by omega)
   have e2 : sumsS (refsP cs) es = true := sumsS_true.2 (by rw [← e]; exact hb)
   refine goh trivial ?_
   exact finh [] e2
 ·simp [no, ifp] at hp
end Go.Proofs.YtfmjgoeclilcnaaGreatDoor
namespace Go.Proofs.YtfmjgoeclilcnaaGreatDoor
open Go.RowKit
def PtrHas (es : List Ent) (p : Ptr) : Prop := p.at_ ≠ 0 → thereE es p.at_ = true ∧ (es.getD (lowE es p.at_) ET.ent.dflt).sum = p.sum
attribute [go_sem] Eight.list
theorem cnts_nil (es : List Ent) : cnts es (refsP []) = List.replicate es.length ET.int.dflt := cnts_none es
@[go_sem] noncomputable def ctCountsOk : Ct := ⟨false, [[none, some .cset, some .ent, some .ptr, none, some .int, none]], fun args os => match args, os with
  | [.agg [.val (.int .i64 txg), .isl .cset cs, .isl .ent es, .isl .ptr ps, .val (.bool dirty), .isl .int zs, .val (.int .i64 logn)]], [] => ifp (cs.length ≤ 4000000 ∧ es.length ≤ 48 ∧ Asc es ∧ (∀ p ∈ refsP cs, -1000000 ≤ p.at_ ∧ p.at_ ≤ 1000000)) (vb (countB (refsP cs) es))
  | _, _ => no⟩
@[go_sem] def obCk (txg : Int) (cs : List CSet) (es : List Ent) (ps : List Ptr) (dirty : Bool) (zs : List Int) (logn : Int) (ns : List Int) : List (Option Obj) := [some (obCo txg cs es ps dirty zs logn), some (.arr .int ns)]
theorem s_countsOk_e : EnterOk Tryz.prog 143 := ⟨_, Tryz.func143, rfl, by decide⟩
@[go_sem] def s_countsOk_lv : List (List Nat) := [[1], [1, 3], [1, 3, 17, 18, 19], [1, 3, 17, 18, 19, 20], [1, 3, 5, 17, 18, 19], [1, 3, 17, 18, 19, 24, 25], [1, 3, 17, 18, 19, 24, 25, 26], [1, 3, 7, 17, 18, 19, 24, 25], [1, 3, 7, 17, 18, 19, 24, 25, 30], [1, 3, 7, 8, 9, 17, 18, 19, 24, 25], [1, 3, 8, 17, 18, 19, 24, 25, 51], [2], [1, 3, 17, 18, 19, 24, 25], [1, 3, 17, 18, 19, 24, 25], [1, 3, 17, 18, 19], [3, 61, 62, 63], [3, 61, 62, 63, 64], [3, 10, 11, 61, 62, 63], [3, 61, 62, 63, 74], [2], [3, 61, 62, 63], [2]]
@[go_sem] noncomputable def s_countsOk_K : Known := (Known.nil).cons 201 ctPlaceE s_ddtPlace s_ddtPlace_e
set_option maxHeartbeats 8000000 in
theorem s_countsOk : Sound Tryz.prog 143 ctCountsOk := by
 have ke := s_countsOk_K.env []
 have kl : Lives s_countsOk_lv := trivial
 refine sound_intro (E := ⟨ti, s_countsOk_K.Γ, []⟩) ke Tryz.func143 Tryz.ntmps143 rfl (rs := [.tmp 2]) rfl ?_
 intro args os hp
 unfold ctCountsOk at hp ⊢
 dsimp only at hp ⊢
 split at hp
 ·rename_i txg cs es ps dirty zs logn
  refine ⟨by simp, fun φ0 w0 => ?_⟩
  obtain ⟨hlen, hes, hasc, hat⟩ : cs.length ≤ 4000000 ∧ es.length ≤ 48 ∧ Asc es ∧ (∀ p ∈ refsP cs, -1000000 ≤ p.at_ ∧ p.at_ ≤ 1000000) := hp
  refine goh trivial ?_
  refine W_for cs.length (fun i => ∀ p ∈ refsP (cs.take i), PtrHas es p) (fun i => ⟨[(1, .one (.ptr 0 0)), (3, .one (.osl .int 1 0 es.length)), (17, .one (.isl .cset cs)), (18, vi cs.length), (19, vi i)], obCk txg cs es ps dirty zs logn (cnts es (refsP (cs.take i))), []⟩) [some 0, some 1] (leh (cnts_nil es)) (fun p hp => by cases hp) fun i hi hb => ?_
  have hcl := cnts_len es (refsP (cs.take i))
  refine goh trivial ?_
  refine W_cnd ?_ ?_ <;> (try simp only [cnd_r]) <;> intro hlt
  ·have h0 := ptrsTo_zero cs i
   refine goh trivial ?_
   refine W_for 8 (fun j => ∀ p ∈ ptrsTo cs i j, PtrHas es p) (fun j => ⟨[(1, .one (.ptr 0 0)), (3, .one (.osl .int 1 0 es.length)), (17, .one (.isl .cset cs)), (18, vi cs.length), (19, vi i), (24, .agg (((cs.getD i ET.cset.dflt).map.list.flatMap Ptr.cells).map .val)), (25, vi j)], obCk txg cs es ps dirty zs logn (cnts es (ptrsTo cs i j)), []⟩) [some 0, some 1] (leh h0) (by rw [ptrsTo_zero]; exact hb) fun j hj hb2 => ?_
   have hcl2 := cnts_len es (ptrsTo cs i j)
   rcases (show j < 8 ∨ j = 8 by omega) with hi8 | hc8
   ·have hn := ptrsTo_next cs i hi8
    have hin := ptr_in (show i < cs.length by omega) hi8
    have hrange := hat _ hin
    have hnext : PtrHas es ((cs.getD i ET.cset.dflt).map.get j) → ∀ p ∈ ptrsTo cs i (j + 1), PtrHas es p := fun h p hp => by
     rw [hn, List.mem_append, List.mem_singleton] at hp
     rcases hp with hp | rfl
     ·exact hb2 p hp
     ·exact h
    have hcase : thereE es ((cs.getD i ET.cset.dflt).map.get j).at_ = false ∨ thereE es ((cs.getD i ET.cset.dflt).map.get j).at_ = true ∧ lowE es ((cs.getD i ET.cset.dflt).map.get j).at_ < es.length := by
     cases h : thereE es ((cs.getD i ET.cset.dflt).map.get j).at_ with
     | false => exact .inl rfl
     | true => exact .inr ⟨rfl, (thereE_at h).1⟩
    have hbad : ¬ PtrHas es ((cs.getD i ET.cset.dflt).map.get j) → countB (refsP cs) es = false := fun h => countB_false.2 fun h2 => h (h2.sums.each _ hin)
    have hstep : thereE es ((cs.getD i ET.cset.dflt).map.get j).at_ = true → (cnts es (ptrsTo cs i j)).set (lowE es ((cs.getD i ET.cset.dflt).map.get j).at_) ((cnts es (ptrsTo cs i j)).getD (lowE es ((cs.getD i ET.cset.dflt).map.get j).at_) ET.int.dflt + 1) = cnts es (ptrsTo cs i (j + 1)) := fun h => by rw [hn]; exact cnts_step hasc h
    have hskip : ((cs.getD i ET.cset.dflt).map.get j).at_ = 0 → cnts es (ptrsTo cs i (j + 1)) = cnts es (ptrsTo cs i j) := fun h => by rw [hn]; exact cnts_skip hasc _ h
    have hcb : ∀ k, k < es.length → 0 ≤ (cnts es (ptrsTo cs i j)).getD k 0 ∧ (cnts es (ptrsTo cs i j)).getD k 0 ≤ 40000000 := fun k hk => by
     rw [cnts_at _ hk]
     have h1 := cnt_le (ptrsTo cs i j) (es.getD k ET.ent.dflt).at_
     have h2 := ptrsTo_len cs i j
     omega
    have hcw : ∀ k, k < es.length → IntKind.i64.wrap ((cnts es (ptrsTo cs i j)).getD k ET.int.dflt + 1) = (cnts es (ptrsTo cs i j)).getD k ET.int.dflt + 1 := fun k hk => by
     have := hcb k hk
     exact wrap_id ((cnts es (ptrsTo cs i j)).getD k 0 + 1) (by omega) (by omega)
    rcases (show j = 0 ∨ j = 1 ∨ j = 2 ∨ j = 3 ∨ j = 4 ∨ j = 5 ∨ j = 6 ∨ j = 7 by omega) with hc8 | hc8 | hc8 | hc8 | hc8 | hc8 | hc8 | hc8
    all_goals
     subst hc8
     simp only [Eight.get, Nat.reduceAdd] at hnext hbad hcase hrange hstep hskip
     refine goh trivial ?_
     refine W_cnd ?_ ?_ <;> intro hlit <;> try (cases hlit; done)
     refine goh trivial ?_
     refine W_cnd ?_ ?_ <;> (try simp only [cnd_r]) <;> intro hz
     ·refine goh trivial ?_
      exact ⟨[some 0, some 1], by omega, leh (hskip hz), hnext fun h => absurd hz h⟩
     ·simp only [beq_eq_false_iff_ne, ne_eq] at hz
      rcases hcase with ht | ⟨ht, hlow⟩
      ·have e := hbad fun h => by have := (h hz).1; rw [ht] at this; cases this
       refine goh ht ?_
       refine W_cnd ?_ ?_ <;> intro hlit <;> try (cases hlit; done)
       refine goh trivial ?_
       exact finh [] e
      ·refine goh ht ?_
       refine W_cnd ?_ ?_ <;> (try simp only [cnd_r]) <;> intro hx
       ·have e := hbad fun h => hx (h hz).2
        refine goh trivial ?_
        exact finh [] e
       ·have hs := hstep ht
        have hw := hcw _ hlow
        refine goh hw ?_
        exact ⟨[some 0, some 1], by omega, leh hs, hnext fun h => ⟨ht, hx⟩⟩
   ·subst hc8
    have he := ptrsTo_end (show i < cs.length by omega)
    refine goh trivial ?_
    refine W_cnd ?_ ?_ <;> intro hlit <;> try (cases hlit; done)
    refine goh trivial ?_
    exact ⟨[some 0, some 1], by omega, leh he, by rw [← he]; exact hb2⟩
  ·have e := refs_end (show cs.length ≤ i by omega)
   rw [e] at hb hcl
   have hS : SumsP (refsP cs) es := ⟨hb⟩
   refine goh trivial ?_
   refine W_for es.length (fun k => ∀ q, q < k → (es.getD q ET.ent.dflt).count = cntAt (refsP cs) (es.getD q ET.ent.dflt).at_) (fun k => ⟨[(3, .one (.osl .int 0 0 es.length)), (61, .one (.isl .ent es)), (62, vi es.length), (63, vi k)], [some (.arr .int (cnts es (refsP cs)))], []⟩) [some 1] (leh e) (by omega) fun k hk hb3 => ?_
   refine goh trivial ?_
   refine W_cnd ?_ ?_ <;> (try simp only [cnd_r]) <;> intro hlt2
   ·have hck := cnts_at (refsP cs) (show k < es.length by omega)
    refine goh trivial ?_
    refine W_cnd ?_ ?_ <;> (try simp only [cnd_r]) <;> intro hx
    ·have e2 : countB (refsP cs) es = false := countB_false.2 fun h => by
      have h1 := h.cnt k (by omega)
      rw [← hck] at h1
      exact hx h1
     refine goh trivial ?_
     exact finh [] e2
    ·refine goh trivial ?_
     exact ⟨[some 0], by omega, leh trivial, fun q hq => by
      rcases Nat.lt_succ_iff_lt_or_eq.1 hq with h | rfl
      ·exact hb3 q h
      ·rw [← hck]; exact hx⟩
   ·have e2 : countB (refsP cs) es = true := countB_true.2 ⟨hS, fun q hq => hb3 q (by omega)⟩
    refine goh trivial ?_
    exact finh [] e2
 ·simp [no, ifp] at hp
end Go.Proofs.YtfmjgoeclilcnaaGreatDoor
