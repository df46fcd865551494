import Derived.Test.YtfmjgoeclilcnaaGreatDoorM7
import Derived.Test.YtfmjgoeclilcnaaGreatDoorM8
import Derived.Test.YtfmjgoeclilcnaaGreatDoorM10
set_option linter.unusedSimpArgs false
set_option linter.unusedVariables false
set_option linter.unusedSectionVars false
namespace Go.Proofs.YtfmjgoeclilcnaaGreatDoor
open Go.RowKit
theorem counts_eq {cs : List CSet} {es : List Ent} (h : DdtP es) (hs : cs.any csetBad = false) : countB (refsP cs) es = (countsS (refsP cs) es && sumsS (refsP cs) es) := by
 have hlow := refs_ok hs
 have hrc : ∀ k, k < es.length → rcnt (refsP cs) (es.getD k ET.ent.dflt).at_ = cntAt (refsP cs) (es.getD k ET.ent.dflt).at_ := fun k hk => by
  have := h.asc.lo k hk
  unfold rcnt
  rw [if_pos (by omega)]
 have hsum : (∀ p ∈ refsP cs, 0 < p.at_ → thereE es p.at_ = true) → (∀ k, k < es.length → (es.getD k ET.ent.dflt).count = cntAt (refsP cs) (es.getD k ET.ent.dflt).at_) → sumC es = posN (refsP cs) := fun h1 h2 => by
  have h3 := cnt_sum h.asc (refsP cs) h1
  rw [← h3]
  have : ∀ l : List Ent, (∀ e ∈ l, e.count = cntAt (refsP cs) e.at_) → sumC l = ((l.map fun e => cntAt (refsP cs) e.at_).sum : Nat) := fun l => by
   induction l with
   | nil => intro _; rfl
   | cons a l ih =>
     intro hl
     have h4 : sumC (a :: l) = a.count + sumC l := by unfold sumC; rw [List.map_cons, List.sum_cons]
     rw [h4, ih fun e he => hl e (List.mem_cons_of_mem _ he), hl a (by simp), List.map_cons, List.sum_cons]
     omega
  refine this es fun e he => ?_
  obtain ⟨k, hk, rfl⟩ := List.getElem_of_mem he
  have h5 := h2 k hk
  rwa [show es.getD k ET.ent.dflt = es[k] by simp [hk]] at h5
 rw [Bool.eq_iff_iff, Bool.and_eq_true, countB_true, countsS_true, sumsS_true]
 constructor
 ·rintro ⟨⟨h1⟩, h2⟩
  refine ⟨⟨fun k hk => by rw [hrc k hk, h2 k hk], hsum (fun p hp h0 => (h1 p hp (by omega)).1) h2⟩, fun p hp h0 => h1 p hp (by omega)⟩
 ·rintro ⟨⟨h1, -⟩, h2⟩
  refine ⟨⟨fun p hp h0 => h2 p hp ?_⟩, fun k hk => by rw [← h1 k hk, hrc k hk]⟩
  have := ptr_low (hlow p hp)
  omega
theorem Co.ok_eq {c : Co} (h1 : 0 ≤ c.txg ∧ c.txg ≤ 1000000) (h2 : ddtB c.ddt = true) (h3 : c.parts.length ≤ 8) (h4 : c.parts.any partBad = false) (h5 : 0 ≤ c.logn ∧ c.logn ≤ 8) (h6 : safeB c.safe = true) : c.ok = (!c.sets.any csetBad && (bookB (frameOf c.sets) && countB (refsP c.sets) c.ddt)) := by
 rw [Bool.eq_iff_iff, Co.ok_true]
 simp only [Bool.and_eq_true, Bool.not_eq_true', countB_true]
 exact ⟨fun h => ⟨h.sets, h.book, h.counts⟩, fun h => ⟨h1, ddtB_true.1 h2, ⟨h3, h4⟩, h5, safeB_true.1 h6, h.1, h.2.1, h.2.2⟩⟩
@[go_sem] noncomputable def ctBadCset : Ct := ⟨false, [], fun args os => match args, os with
  | [.agg cs], [] => (match csetOf cs with | some s => ifp s.small (vb (csetBad s)) | none => no)
  | _, _ => no⟩
theorem s_coreOk2_e : EnterOk Tryz.prog 141 := ⟨_, Tryz.func141, rfl, by decide⟩
@[go_sem] def s_coreOk2_lv : List (List Nat) := [[1], [2]]
@[go_sem] noncomputable def s_coreOk2_K : Known := (Known.nil).cons 142 ctSetOk s_setOk s_setOk_e
set_option maxHeartbeats 8000000 in
theorem s_coreOk2 : Sound Tryz.prog 141 ctBadCset := by
 have ke := s_coreOk2_K.env []
 have kl : Lives s_coreOk2_lv := trivial
 refine sound_intro (E := ⟨ti, s_coreOk2_K.Γ, []⟩) ke Tryz.func141 Tryz.ntmps141 rfl (rs := [.tmp 2]) rfl ?_
 intro args os hp
 unfold ctBadCset at hp ⊢
 dsimp only at hp ⊢
 split at hp
 ·rename_i cs
  split at hp
  ·rename_i s hs
   obtain rfl := csetOf_some hs
   have h1 : s.small := hp
   clear hs
   refine ⟨by simp, fun φ0 w0 => ?_⟩
   refine goh trivial ?_
   refine ⟨by (simp only [go_sem, csetBad, ↓reduceIte, reduceCtorEq, Nat.reduceAdd, Nat.reduceLT, Nat.reduceLeDiff, Nat.reduceEqDiff]) <;> trivial, [], ?_⟩
   all_goals try simp only [go_sem, csetBad, inj_r, ↓reduceIte, reduceCtorEq, Nat.reduceAdd, Nat.reduceLT, Nat.reduceLeDiff, Nat.reduceEqDiff, Int.reduceEq]
   all_goals (repeat' refine And.intro ?_ ?_) <;> try exact shut7
  ·simp [no] at hp
 ·simp [no] at hp
@[go_sem] noncomputable def ctIxCset : Ct := ⟨false, [[some .cset]], fun args os => match args, os with
  | [.one (.isl .cset xs), .one (.fn 141 [])], [] => ifp (xs.length ≤ 4000000 ∧ ∀ i : Nat, (xs.getD i ET.cset.dflt).small) (vi (firstAt csetBad xs))
  | _, _ => no⟩
theorem s_ixCset_e : EnterOk Tryz.prog 199 := ⟨_, Tryz.func199, rfl, by decide⟩
@[go_sem] def s_ixCset_lv : List (List Nat) := [[0, 1], [0, 1, 7, 8], [0, 1, 7, 8, 9], [0, 1, 5, 7, 8], [0, 1, 5, 7, 8, 16], [4], [0, 1, 7, 8], [4]]
@[go_sem] noncomputable def s_ixCset_K : Known := (Known.nil).cons 141 ctBadCset s_coreOk2 s_coreOk2_e
set_option maxHeartbeats 8000000 in
theorem s_ixCset : Sound Tryz.prog 199 ctIxCset := by
 have ke := s_ixCset_K.env []
 have kl : Lives s_ixCset_lv := trivial
 refine sound_intro (E := ⟨ti, s_ixCset_K.Γ, []⟩) ke Tryz.func199 Tryz.ntmps199 rfl (rs := [.tmp 4]) rfl ?_
 intro args os hp
 unfold ctIxCset at hp ⊢
 dsimp only at hp ⊢
 split at hp
 ·rename_i xs
  refine ⟨by simp, fun φ0 w0 => ?_⟩
  obtain ⟨hlen, hsm⟩ : xs.length ≤ 4000000 ∧ ∀ i : Nat, (xs.getD i ET.cset.dflt).small := hp
  refine goh trivial ?_
  refine W_for xs.length (fun i => ∀ j, j < i → csetBad (xs.getD j ET.cset.dflt) = false) (fun i => ⟨[(8, vi i), (7, vi xs.length), (0, .one (.isl .cset xs)), (1, .one (.fn 141 []))], [], []⟩) [] (leh trivial) (by omega) fun i hi hb => ?_
  refine goh trivial ?_
  refine W_cnd ?_ ?_ <;> (try simp only [cnd_r]) <;> intro hlt
  ·have hs := hsm i
   refine goh trivial ?_
   refine W_cnd ?_ ?_ <;> (try simp only [cnd_r]) <;> intro hl
   ·have e : firstAt csetBad xs = i := firstAt_some (d := ET.cset.dflt) (by omega) hb hl
    refine goh trivial ?_
    exact finh [] e
   ·refine goh trivial ?_
    exact ⟨[], by omega, leh trivial, fun j hj => by
     rcases Nat.lt_succ_iff_lt_or_eq.1 hj with h | rfl
     ·exact hb j h
     ·exact hl⟩
  ·have e : firstAt csetBad xs = -1 := firstAt_none (d := ET.cset.dflt) fun j hj => hb j (by omega)
   refine goh trivial ?_
   exact finh [] e
 ·simp [no, ifp] at hp
@[go_sem] noncomputable def ctHasCset : Ct := ⟨false, [[some .cset]], fun args os => match args, os with
  | [.one (.isl .cset xs), .one (.fn 141 [])], [] => ifp (xs.length ≤ 4000000 ∧ ∀ i : Nat, (xs.getD i ET.cset.dflt).small) (vb (xs.any csetBad))
  | _, _ => no⟩
theorem s_hasCset_e : EnterOk Tryz.prog 140 := ⟨_, Tryz.func140, rfl, by decide⟩
@[go_sem] def s_hasCset_lv : List (List Nat) := [[0, 1], [4]]
@[go_sem] noncomputable def s_hasCset_K : Known := (Known.nil).cons 199 ctIxCset s_ixCset s_ixCset_e
set_option maxHeartbeats 8000000 in
theorem s_hasCset : Sound Tryz.prog 140 ctHasCset := by
 have ke := s_hasCset_K.env []
 have kl : Lives s_hasCset_lv := trivial
 refine sound_intro (E := ⟨ti, s_hasCset_K.Γ, []⟩) ke Tryz.func140 Tryz.ntmps140 rfl (rs := [.tmp 4]) rfl ?_
 intro args os hp
 unfold ctHasCset at hp ⊢
 dsimp only at hp ⊢
 split at hp
 ·rename_i xs
  refine ⟨by simp, fun φ0 w0 => ?_⟩
  obtain ⟨hlen, hsm⟩ : xs.length ≤ 4000000 ∧ ∀ i : Nat, (xs.getD i ET.cset.dflt).small := hp
  refine goh trivial ?_
  refine ⟨by (simp only [go_sem, ↓reduceIte, reduceCtorEq, Nat.reduceAdd, Nat.reduceLT, Nat.reduceLeDiff, Nat.reduceEqDiff]) <;> trivial, [], ?_⟩
  all_goals try simp only [go_sem, inj_r, ↓reduceIte, reduceCtorEq, Nat.reduceAdd, Nat.reduceLT, Nat.reduceLeDiff, Nat.reduceEqDiff, Int.reduceEq]
  all_goals (repeat' refine And.intro ?_ ?_) <;> try exact shut7
  exact firstAt_ge _ _
 ·simp [no, ifp] at hp
theorem safe_no {zs : List Int} {i : Nat} (hi : i < zs.length) (h : (¬ 13 ≤ zs.getD i ET.int.dflt ∨ ¬ zs.getD i ET.int.dflt ≤ 119) ∨ (i : Int) > 0 ∧ zs.getD (i - 1) ET.int.dflt ≥ zs.getD i ET.int.dflt) : safeB zs = false := safeB_false.2 fun hs => by
 obtain ⟨⟨h1, h2⟩, h3⟩ := hs i hi
 rcases h with (h | h) | ⟨h4, h5⟩
 ·exact h h1
 ·exact h h2
 ·exact absurd (h3 (by omega)) (Int.not_lt.2 h5)
theorem safe_yes {zs : List Int} {i : Nat} (hb : ∀ j, j < i → Safe zs j) (h : (13 ≤ zs.getD i ET.int.dflt ∧ zs.getD i ET.int.dflt ≤ 119) ∧ (¬ (i : Int) > 0 ∨ ¬ zs.getD (i - 1) ET.int.dflt ≥ zs.getD i ET.int.dflt)) : ∀ j, j < i + 1 → Safe zs j := fun j hj => by
 rcases Nat.lt_succ_iff_lt_or_eq.1 hj with h2 | rfl
 ·exact hb j h2
 ·exact ⟨h.1, fun h0 => h.2.elim (fun h2 => absurd (show (j : Int) > 0 by omega) h2) fun h2 => Int.not_le.1 h2⟩
structure Co.fit (c : Co) : Prop where
 small : c.small
 sets : ∀ i : Nat, (c.sets.getD i ET.cset.dflt).small
@[go_sem] noncomputable def ctCoreOk : Ct := ⟨false, [[none, some .cset, some .ent, some .ptr, none, some .int, none]], fun args os => match args, os with
  | [.agg [.val (.int .i64 txg), .isl .cset cs, .isl .ent es, .isl .ptr ps, .val (.bool dirty), .isl .int zs, .val (.int .i64 logn)]], [] => ifp (Co.mk txg cs es ps dirty zs logn).fit (vb (Co.mk txg cs es ps dirty zs logn).ok)
  | _, _ => no⟩
theorem frame_small {cs : List CSet} (h : ∀ i : Nat, (cs.getD i ET.cset.dflt).small) (i : Nat) : ((frameOf cs).getD i ET.bset.dflt).name.size ≤ 9223372036854775807 := by
 rw [frame_at]; exact (h i).1
noncomputable def poolB (p : Pl) : Bool := p.disk.ok && (decide (13 < p.disk.a.length) && p.core.ok)
theorem s_coreOk_e : EnterOk Tryz.prog 61 := ⟨_, Tryz.func61, rfl, by decide⟩
@[go_sem] def s_coreOk_lv : List (List Nat) := [[1], [1, 31], [2], [1, 33, 34, 35], [1, 33, 34, 35, 36], [1, 3, 4, 33, 34, 35], [1, 33, 34, 35, 56], [2], [1, 33, 34, 35], [2]]
@[go_sem] noncomputable def s_coreOk_K : Known := (((((((((Known.nil).cons 123 ctWithin s_within s_within_e).cons 137 ctDdtOk s_ddtOk s_ddtOk_e).cons 138 ctHasPart s_hasPart s_hasPart_e).cons 139 ctPartBad s_coreOk1 s_coreOk1_e).cons 140 ctHasCset s_hasCset s_hasCset_e).cons 141 ctBadCset s_coreOk2 s_coreOk2_e).cons 133 ctFrame s_frame s_frame_e).cons 132 ctBookOk s_bookOk s_bookOk_e).cons 143 ctCountsOk s_countsOk s_countsOk_e
set_option maxHeartbeats 8000000 in
theorem s_coreOk : Sound Tryz.prog 61 ctCoreOk := by
 have ke := s_coreOk_K.env []
 have kl : Lives s_coreOk_lv := trivial
 refine sound_intro (E := ⟨ti, s_coreOk_K.Γ, []⟩) ke Tryz.func61 Tryz.ntmps61 rfl (rs := [.tmp 2]) rfl ?_
 intro args os hp
 unfold ctCoreOk at hp ⊢
 dsimp only at hp ⊢
 split at hp
 ·rename_i txg cs es ps dirty zs logn
  refine ⟨by simp, fun φ0 w0 => ?_⟩
  obtain ⟨⟨h1, h2, h3, h4⟩, hsm⟩ : (Co.mk txg cs es ps dirty zs logn).fit := hp
  simp only at h1 h2 h3 h4 hsm
  have hfs := frame_small hsm
  have hfl := frame_len cs
  refine goh trivial ?_
  refine W_cnd ?_ ?_ <;> (try simp only [cnd_r]) <;> intro hc
  ·have e : (Co.mk txg cs es ps dirty zs logn).ok = false := Co.ok_false.2 fun h => by
    have h1 := h.txg
    have h2 := ddtB_true.2 h.ddt
    have h3 := h.parts
    have h4 := h.logn
    simp only at h1 h2 h3 h4
    rcases hc with (((hc | hc) | hc) | hc) | hc
    ·omega
    ·rw [h2] at hc; cases hc
    ·omega
    ·rw [h3.2] at hc; cases hc
    ·omega
   refine goh trivial ?_
   exact finh [] e
  ·obtain ⟨⟨⟨⟨k1, k2⟩, k3⟩, k4⟩, k5⟩ := hc
   have k2 : ddtB es = true := by simpa using k2
   have k4 : ps.any partBad = false := by simpa using k4
   have hD := ddtB_true.1 k2
   have hasc := hD.asc
   have hes := hD.few
   refine goh trivial ?_
   refine W_for zs.length (fun i => ∀ j, j < i → Safe zs j) (fun i => ⟨[(1, .one (.ptr 0 0)), (33, .one (.isl .int zs)), (34, vi zs.length), (35, vi i)], [some (obCo txg cs es ps dirty zs logn)], []⟩) [some 0] (leh trivial) (by omega) fun i hi hb => ?_
   refine goh trivial ?_
   refine W_cnd ?_ ?_ <;> (try simp only [cnd_r]) <;> intro hlt
   ·have w1 : IntKind.i64.wrap ((i : Int) - 1) = (i : Int) - 1 := wrap_id _ (by omega) (by omega)
    have ht : ((i : Int) - 1).toNat = i - 1 := by omega
    refine goh (And.intro w1 ht) ?_
    refine W_cnd ?_ ?_ <;> (try simp only [cnd_r]) <;> intro hx
    ·have e : (Co.mk txg cs es ps dirty zs logn).ok = false := Co.ok_false.2 fun h => by
      have := safeB_true.2 h.safe
      rw [safe_no (by omega) hx] at this; cases this
     refine goh trivial ?_
     exact finh [] e
    ·refine goh trivial ?_
     exact ⟨[some 0], by omega, leh trivial, safe_yes hb hx⟩
   ·have hS : safeB zs = true := safeB_true.2 fun j hj => hb j (by omega)
    have e := Co.ok_eq (c := ⟨txg, cs, es, ps, dirty, zs, logn⟩) k1 k2 (by simp only; omega) k4 k5 hS
    simp only at e
    cases hA : cs.any csetBad with
    | true =>
      refine goh hA ?_
      rw [hA] at e
      exact finh [] e
    | false =>
      have hat : ∀ p ∈ refsP cs, -1000000 ≤ p.at_ ∧ p.at_ ≤ 1000000 := fun p hp => by
       have := ptr_low (refs_ok hA p hp)
       omega
      rw [hA] at e
      refine goh hA ?_
      refine ⟨by (simp only [go_sem, e, ↓reduceIte, reduceCtorEq, Nat.reduceAdd, Nat.reduceLT, Nat.reduceLeDiff, Nat.reduceEqDiff]) <;> trivial, [], ?_⟩
      all_goals try simp only [go_sem, e, inj_r, ↓reduceIte, reduceCtorEq, Nat.reduceAdd, Nat.reduceLT, Nat.reduceLeDiff, Nat.reduceEqDiff, Int.reduceEq]
      all_goals (repeat' refine And.intro ?_ ?_) <;> try exact shut7
      cases bookB (frameOf cs) <;> rfl
 ·simp [no, ifp] at hp
theorem s_specCoreOk_e : EnterOk Tryz.prog 51 := ⟨_, Tryz.func51, rfl, by decide⟩
@[go_sem] def s_specCoreOk_lv : List (List Nat) := [[1], [1, 40], [2], [1, 3], [1, 3, 45], [1, 3], [1, 3, 54], [2], [1, 4], [1, 4, 59], [1, 4], [1, 4, 77], [2], [2]]
@[go_sem] noncomputable def s_specCoreOk_K : Known := ((((((((Known.nil).cons 113 ctDdtOk s_specDdtOk s_specDdtOk_e).cons 114 ctPlaces s_l6Places s_l6Places_e).cons 115 ctSetOk s_l6Set s_l6Set_e).cons 87 ctPtrOk s_specPtrOk s_specPtrOk_e).cons 110 ctFrame s_l6Names s_l6Names_e).cons 109 ctBookOk s_specBookOk s_specBookOk_e).cons 116 ctCountsS s_l6Counts s_l6Counts_e).cons 117 ctSumsS s_l6Sums s_l6Sums_e
set_option maxHeartbeats 8000000 in
theorem s_specCoreOk : Sound Tryz.prog 51 ctCoreOk := by
 have ke := s_specCoreOk_K.env []
 have kl : Lives s_specCoreOk_lv := trivial
 refine sound_intro (E := ⟨ti, s_specCoreOk_K.Γ, []⟩) ke Tryz.func51 Tryz.ntmps51 rfl (rs := [.tmp 2]) rfl ?_
 intro args os hp
 unfold ctCoreOk at hp ⊢
 dsimp only at hp ⊢
 split at hp
 ·rename_i txg cs es ps dirty zs logn
  refine ⟨by simp, fun φ0 w0 => ?_⟩
  obtain ⟨⟨h1, h2, h3, h4⟩, hsm⟩ : (Co.mk txg cs es ps dirty zs logn).fit := hp
  simp only at h1 h2 h3 h4 hsm
  have hfs := frame_small hsm
  have hfl := frame_len cs
  refine goh trivial ?_
  refine W_cnd ?_ ?_ <;> (try simp only [cnd_r]) <;> intro hc
  ·have e : (Co.mk txg cs es ps dirty zs logn).ok = false := Co.ok_false.2 fun h => by
    have h1 := h.txg
    have h2 := ddtB_true.2 h.ddt
    have h3 := h.parts
    have h4 := h.logn
    have h5 := safeB_true.2 h.safe
    simp only at h1 h2 h3 h4 h5
    rcases hc with (((((hc | hc) | hc) | hc) | hc) | hc) | hc
    ·omega
    ·omega
    ·rw [h2] at hc; cases hc
    ·omega
    ·rw [h5] at hc; cases hc
    ·omega
    ·omega
   refine goh trivial ?_
   exact finh [] e
  ·obtain ⟨⟨⟨⟨⟨⟨k1, k1b⟩, k2⟩, k3⟩, hS⟩, k5⟩, k5b⟩ := hc
   have k2 : ddtB es = true := by simpa using k2
   have hS : safeB zs = true := by simpa using hS
   have hD := ddtB_true.1 k2
   have hasc := hD.asc
   have hes := hD.few
   refine goh trivial ?_
   refine W_for cs.length (fun i => ∀ j, j < i → csetB (cs.getD j ET.cset.dflt) = true) (fun i => ⟨[(1, .one (.ptr 0 0)), (3, vi i)], [some (obCo txg cs es ps dirty zs logn)], []⟩) [some 0] (leh trivial) (by omega) fun i hi hb => ?_
   refine goh trivial ?_
   refine W_cnd ?_ ?_ <;> (try simp only [cnd_r]) <;> intro hlt
   ·have hs := hsm i
    refine goh trivial ?_
    refine W_cnd ?_ ?_ <;> (try simp only [cnd_r]) <;> intro hx
    ·have e : (Co.mk txg cs es ps dirty zs logn).ok = false := Co.ok_false.2 fun h => by
      have h1 := h.sets
      rw [List.any_eq_false] at h1
      have h2 := h1 (cs.getD i ET.cset.dflt) (by simp [show i < cs.length by omega])
      unfold csetBad at h2
      rw [hx] at h2
      simp at h2
     refine goh trivial ?_
     exact finh [] e
    ·refine goh trivial ?_
     exact ⟨[some 0], by omega, leh trivial, fun j hj => by
      rcases Nat.lt_succ_iff_lt_or_eq.1 hj with h | rfl
      ·exact hb j h
      ·exact hx⟩
   ·have hA : cs.any csetBad = false := by
     rw [List.any_eq_false]
     intro s hs
     obtain ⟨j, hj, rfl⟩ := List.getElem_of_mem hs
     have h1 := hb j (by omega)
     rw [show cs.getD j ET.cset.dflt = cs[j] by simp [hj]] at h1
     unfold csetBad
     rw [h1]; decide
    clear hb hlt hi
    refine goh trivial ?_
    refine W_for ps.length (fun i => ∀ j, j < i → partBad (ps.getD j ET.ptr.dflt) = false) (fun i => ⟨[(1, .one (.ptr 0 0)), (4, vi i)], [some (obCo txg cs es ps dirty zs logn)], []⟩) [some 0] (leh trivial) (by omega) fun i hi hb => ?_
    refine goh trivial ?_
    refine W_cnd ?_ ?_ <;> (try simp only [cnd_r]) <;> intro hlt
    ·refine goh trivial ?_
     refine W_cnd ?_ ?_ <;> (try simp only [cnd_r]) <;> intro hx
     ·have e : (Co.mk txg cs es ps dirty zs logn).ok = false := Co.ok_false.2 fun h => by
       have h1 := h.parts.2
       rw [List.any_eq_false] at h1
       have h2 := h1 (ps.getD i ET.ptr.dflt) (by simp [show i < ps.length by omega])
       unfold partBad realB at h2
       rcases hx with hx | hx
       ·rw [hx] at h2; simp at h2
       ·rw [hx] at h2; simp at h2
      refine goh trivial ?_
      exact finh [] e
     ·refine goh trivial ?_
      exact ⟨[some 0], by omega, leh trivial, fun j hj => by
       rcases Nat.lt_succ_iff_lt_or_eq.1 hj with h | rfl
       ·exact hb j h
       ·have x1 : ptrOkB (ps.getD j ET.ptr.dflt) = true := (Bool.not_eq_false _).mp hx.1
        have x2 := hx.2
        unfold partBad realB
        rw [x1, x2]; rfl⟩
    ·have k4 : ps.any partBad = false := by
      rw [List.any_eq_false]
      intro s hs
      obtain ⟨j, hj, rfl⟩ := List.getElem_of_mem hs
      have h1 := hb j (by omega)
      rw [show ps.getD j ET.ptr.dflt = ps[j] by simp [hj]] at h1
      rw [h1]; decide
     have e := Co.ok_eq (c := ⟨txg, cs, es, ps, dirty, zs, logn⟩) (by simp only; omega) k2 (by simp only; omega) k4 (by simp only; omega) hS
     simp only at e
     rw [hA, counts_eq hD hA] at e
     refine goh trivial ?_
     refine ⟨by (simp only [go_sem, e, ↓reduceIte, reduceCtorEq, Nat.reduceAdd, Nat.reduceLT, Nat.reduceLeDiff, Nat.reduceEqDiff]) <;> trivial, [], ?_⟩
     all_goals try simp only [go_sem, e, inj_r, ↓reduceIte, reduceCtorEq, Nat.reduceAdd, Nat.reduceLT, Nat.reduceLeDiff, Nat.reduceEqDiff, Int.reduceEq]
     all_goals (repeat' refine And.intro ?_ ?_) <;> try exact shut7
     cases bookB (frameOf cs) <;> cases countsS (refsP cs) es <;> rfl
 ·simp [no, ifp] at hp
theorem pool_ok1 (x y : Bool) (n : Nat) : (if (if x = true then y else false) = true then decide ((n : Int) > 13) else false) = (x && (decide (13 < n) && y)) := by
 rw [show decide ((n : Int) > 13) = decide (13 < n) from decide_eq_decide.2 (by omega)]
 cases x <;> cases y <;> simp
theorem pool_ok2 (x y : Bool) (n : Nat) : (if (if x = true then decide ((n : Int) > 13) else false) = true then y else false) = (x && (decide (13 < n) && y)) := by
 rw [show decide ((n : Int) > 13) = decide (13 < n) from decide_eq_decide.2 (by omega)]
 cases x <;> cases y <;> simp
@[go_sem] noncomputable def ctCommitOk : Ct := ⟨false, [[some .str, some .str, some .late], [none, some .cset, some .ent, some .ptr, none, some .int, none]], fun args os => match args, os with
  | [.agg [.isl .str a, .isl .str b, .isl .late l], .agg [.val (.int .i64 txg), .isl .cset cs, .isl .ent es, .isl .ptr ps, .val (.bool dirty), .isl .int zs, .val (.int .i64 logn)]], [] => ifp ((Dk.mk a b l).small ∧ (Co.mk txg cs es ps dirty zs logn).fit) (vb (poolB ⟨⟨a, b, l⟩, ⟨txg, cs, es, ps, dirty, zs, logn⟩, true⟩))
  | _, _ => no⟩
theorem s_commitOk_e : EnterOk Tryz.prog 94 := ⟨_, Tryz.func94, rfl, by decide⟩
@[go_sem] def s_commitOk_lv : List (List Nat) := [[2, 3], [4]]
@[go_sem] noncomputable def s_commitOk_K : Known := ((Known.nil).cons 56 ctDiskOk s_diskOk s_diskOk_e).cons 61 ctCoreOk s_coreOk s_coreOk_e
set_option maxHeartbeats 8000000 in
theorem s_commitOk : Sound Tryz.prog 94 ctCommitOk := by
 have ke := s_commitOk_K.env []
 have kl : Lives s_commitOk_lv := trivial
 refine sound_intro (E := ⟨ti, s_commitOk_K.Γ, []⟩) ke Tryz.func94 Tryz.ntmps94 rfl (rs := [.tmp 4]) rfl ?_
 intro args os hp
 unfold ctCommitOk at hp ⊢
 dsimp only at hp ⊢
 split at hp
 ·rename_i a b l txg cs es ps dirty zs logn
  refine ⟨by simp, fun φ0 w0 => ?_⟩
  obtain ⟨⟨h1, h2, h3⟩, hf⟩ : (Dk.mk a b l).small ∧ (Co.mk txg cs es ps dirty zs logn).fit := hp
  refine goh trivial ?_
  refine ⟨by (simp only [go_sem, poolB, ↓reduceIte, reduceCtorEq, Nat.reduceAdd, Nat.reduceLT, Nat.reduceLeDiff, Nat.reduceEqDiff]) <;> trivial, [], ?_⟩
  all_goals try simp only [go_sem, poolB, inj_r, ↓reduceIte, reduceCtorEq, Nat.reduceAdd, Nat.reduceLT, Nat.reduceLeDiff, Nat.reduceEqDiff, Int.reduceEq]
  all_goals (repeat' refine And.intro ?_ ?_) <;> try exact shut7
  exact pool_ok1 _ _ _
 ·simp [no, ifp] at hp
@[go_sem] noncomputable def ctPoolOk : Ct := ⟨false, [[some .str, some .str, some .late, none, some .cset, some .ent, some .ptr, none, some .int, none, none]], fun args os => match args, os with
  | [.agg [.isl .str a, .isl .str b, .isl .late l, .val (.int .i64 txg), .isl .cset cs, .isl .ent es, .isl .ptr ps, .val (.bool dirty), .isl .int zs, .val (.int .i64 logn), .val (.bool up)]], [] => ifp ((Dk.mk a b l).small ∧ (Co.mk txg cs es ps dirty zs logn).fit) (vb (poolB ⟨⟨a, b, l⟩, ⟨txg, cs, es, ps, dirty, zs, logn⟩, up⟩))
  | _, _ => no⟩
theorem s_poolOk_e : EnterOk Tryz.prog 37 := ⟨_, Tryz.func37, rfl, by decide⟩
@[go_sem] def s_poolOk_lv : List (List Nat) := [[1], [2]]
@[go_sem] noncomputable def s_poolOk_K : Known := (Known.nil).cons 94 ctCommitOk s_commitOk s_commitOk_e
set_option maxHeartbeats 8000000 in
theorem s_poolOk : Sound Tryz.prog 37 ctPoolOk := by
 have ke := s_poolOk_K.env []
 have kl : Lives s_poolOk_lv := trivial
 refine sound_intro (E := ⟨ti, s_poolOk_K.Γ, []⟩) ke Tryz.func37 Tryz.ntmps37 rfl (rs := [.tmp 2]) rfl ?_
 intro args os hp
 unfold ctPoolOk at hp ⊢
 dsimp only at hp ⊢
 split at hp
 ·rename_i a b l txg cs es ps dirty zs logn up
  refine ⟨by simp, fun φ0 w0 => ?_⟩
  obtain ⟨⟨h1, h2, h3⟩, hf⟩ : (Dk.mk a b l).small ∧ (Co.mk txg cs es ps dirty zs logn).fit := hp
  have e : poolB ⟨⟨a, b, l⟩, ⟨txg, cs, es, ps, dirty, zs, logn⟩, true⟩ = poolB ⟨⟨a, b, l⟩, ⟨txg, cs, es, ps, dirty, zs, logn⟩, up⟩ := rfl
  refine goh trivial ?_
  exact finh [] e
 ·simp [no, ifp] at hp
theorem s_specPoolOk_e : EnterOk Tryz.prog 31 := ⟨_, Tryz.func31, rfl, by decide⟩
@[go_sem] def s_specPoolOk_lv : List (List Nat) := [[1], [2]]
@[go_sem] noncomputable def s_specPoolOk_K : Known := ((Known.nil).cons 46 ctDiskOk s_specDiskOk s_specDiskOk_e).cons 51 ctCoreOk s_specCoreOk s_specCoreOk_e
set_option maxHeartbeats 8000000 in
theorem s_specPoolOk : Sound Tryz.prog 31 ctPoolOk := by
 have ke := s_specPoolOk_K.env []
 have kl : Lives s_specPoolOk_lv := trivial
 refine sound_intro (E := ⟨ti, s_specPoolOk_K.Γ, []⟩) ke Tryz.func31 Tryz.ntmps31 rfl (rs := [.tmp 2]) rfl ?_
 intro args os hp
 unfold ctPoolOk at hp ⊢
 dsimp only at hp ⊢
 split at hp
 ·rename_i a b l txg cs es ps dirty zs logn up
  refine ⟨by simp, fun φ0 w0 => ?_⟩
  obtain ⟨⟨h1, h2, h3⟩, hf⟩ : (Dk.mk a b l).small ∧ (Co.mk txg cs es ps dirty zs logn).fit := hp
  refine goh trivial ?_
  refine ⟨by (simp only [go_sem, poolB, ↓reduceIte, reduceCtorEq, Nat.reduceAdd, Nat.reduceLT, Nat.reduceLeDiff, Nat.reduceEqDiff]) <;> trivial, [], ?_⟩
  all_goals try simp only [go_sem, poolB, inj_r, ↓reduceIte, reduceCtorEq, Nat.reduceAdd, Nat.reduceLT, Nat.reduceLeDiff, Nat.reduceEqDiff, Int.reduceEq]
  all_goals (repeat' refine And.intro ?_ ?_) <;> try exact shut7
  exact pool_ok2 _ _ _
 ·simp [no, ifp] at hp
end Go.Proofs.YtfmjgoeclilcnaaGreatDoor
namespace Go.Proofs.YtfmjgoeclilcnaaGreatDoor
open Go.RowKit
@[go_sem] def ctToPs : Ct := ⟨false, [[some .ptr]], fun args os => match args, os with
  | [.one (.isl .ptr xs)], [] => ⟨xs.length ≤ 4000000, .one (.osl .ptr 0 0 xs.length), [], [.arr .ptr xs]⟩
  | _, _ => no⟩
@[go_sem] def sgToPs (xs : List Ptr) (i : Nat) : Sg := ⟨[(0, .one (.isl .ptr xs)), (3, .one (.osl .ptr 0 0 xs.length)), (4, vi i)], [some (.arr .ptr (mix xs (List.replicate xs.length ET.ptr.dflt) i))], []⟩
theorem s_toPs_e : EnterOk Tryz.prog 92 := ⟨_, Tryz.func92, rfl, by decide⟩
@[go_sem] def s_toPs_lv : List (List Nat) := [[0], [0, 3], [0, 3, 4], [0, 3, 4, 11], [0, 3, 4], [0, 3, 4], [2]]
@[go_sem] noncomputable def s_toPs_K : Known := (Known.nil).cons 162 ctToPtr s_toPtr s_toPtr_e
set_option maxHeartbeats 8000000 in
theorem s_toPs : Sound Tryz.prog 92 ctToPs := by
 have ke := s_toPs_K.env []
 have kl : Lives s_toPs_lv := trivial
 refine sound_intro (E := ⟨ti, s_toPs_K.Γ, []⟩) ke Tryz.func92 Tryz.ntmps92 rfl (rs := [.tmp 2]) rfl ?_
 intro args os hp
 unfold ctToPs at hp ⊢
 dsimp only at hp ⊢
 split at hp
 ·rename_i xs
  refine ⟨by simp, fun φ0 w0 => ?_⟩
  have hlen : xs.length ≤ 4000000 := hp
  clear hp
  refine goh trivial ?_
  refine W_le (σ' := sgToPs xs 0) [some 0] (by
   simp only [go_sem, mix_zero, inj_r, ↓reduceIte, reduceCtorEq, Nat.reduceAdd, Nat.reduceLT, Nat.reduceLeDiff, Nat.reduceEqDiff, Int.reduceEq]
   all_goals (repeat' refine And.intro ?_ ?_) <;> try exact shut7
   ) ?_
  refine W_loop (fun n σ => ∃ i : Nat, i ≤ xs.length ∧ n = xs.length - i ∧ σ = sgToPs xs i) xs.length ⟨0, by omega, by omega, rfl⟩ ?_
  rintro n σ ⟨i, hi, rfl, rfl⟩
  unfold sgToPs
  have hm := mix_len xs (List.replicate xs.length ET.ptr.dflt) i (by simp)
  rw [List.length_replicate] at hm
  refine goh hm ?_
  refine W_cnd ?_ ?_ <;> (try simp only [cnd_r]) <;> intro hlt
  ·have hs := mix_set xs (List.replicate xs.length ET.ptr.dflt) i ET.ptr.dflt (by simp) (by simp; omega) rfl
   refine goh hm ?_
   refine ⟨xs.length - (i + 1), [some 0], sgToPs xs (i + 1), by omega, ?_, i + 1, by omega, rfl, rfl⟩
   exact leh (And.intro hs hm)
  ·have hs := mix_all xs (List.replicate xs.length ET.ptr.dflt) i (by simp) (by simp; omega)
   refine goh hm ?_
   exact finh [some 0] hs
 ·simp [no] at hp
@[go_sem] def ctEqPs : Ct := ⟨false, [[some .ptr], [some .ptr]], fun args os => match args, os with
  | [.one (.isl .ptr xs), .one (.isl .ptr ys)], [] => ifp (xs = ys ∧ xs.length ≤ 4000000) (vb true)
  | _, _ => no⟩
@[go_sem] def sgEqPs (xs : List Ptr) (i : Nat) : Sg := ⟨[(0, .one (.isl .ptr xs)), (1, .one (.isl .ptr xs)), (5, vi i)], [], []⟩
theorem s_eqPs_e : EnterOk Tryz.prog 27 := ⟨_, Tryz.func27, rfl, by decide⟩
@[go_sem] def s_eqPs_lv : List (List Nat) := [[0, 1], [0, 1, 10], [4], [0, 1, 5], [0, 1, 5, 14], [0, 1, 5], [0, 1, 5, 26], [4], [4]]
@[go_sem] noncomputable def s_eqPs_K : Known := (Known.nil).cons 79 ctEqPtr s_eqPtr s_eqPtr_e
set_option maxHeartbeats 8000000 in
theorem s_eqPs : Sound Tryz.prog 27 ctEqPs := by
 have ke := s_eqPs_K.env []
 have kl : Lives s_eqPs_lv := trivial
 refine sound_intro (E := ⟨ti, s_eqPs_K.Γ, []⟩) ke Tryz.func27 Tryz.ntmps27 rfl (rs := [.tmp 4]) rfl ?_
 intro args os hp
 unfold ctEqPs at hp ⊢
 dsimp only at hp ⊢
 split at hp
 ·rename_i xs ys
  refine ⟨by simp, fun φ0 w0 => ?_⟩
  obtain ⟨rfl, hlen⟩ : xs = ys ∧ xs.length ≤ 4000000 := hp
  refine goh trivial ?_
  refine W_cnd ?_ ?_ <;> intro hlit <;> try (cases hlit; done)
  refine goh trivial ?_
  refine W_le (σ' := sgEqPs xs 0) [] (by
   simp only [go_sem, inj_r, ↓reduceIte, reduceCtorEq, Nat.reduceAdd, Nat.reduceLT, Nat.reduceLeDiff, Nat.reduceEqDiff, Int.reduceEq]
   all_goals (repeat' refine And.intro ?_ ?_) <;> try exact shut7
   ) ?_
  refine W_loop (fun n σ => ∃ i : Nat, i ≤ xs.length ∧ n = xs.length - i ∧ σ = sgEqPs xs i) xs.length ⟨0, by omega, by omega, rfl⟩ ?_
  rintro n σ ⟨i, hi, rfl, rfl⟩
  unfold sgEqPs
  refine goh trivial ?_
  refine W_cnd ?_ ?_ <;> (try simp only [cnd_r]) <;> intro hlt
  ·refine goh trivial ?_
   refine W_cnd ?_ ?_ <;> intro hlit <;> try (cases hlit; done)
   refine goh trivial ?_
   refine ⟨xs.length - (i + 1), [], sgEqPs xs (i + 1), by omega, ?_, i + 1, by omega, rfl, rfl⟩
   exact leh trivial
  ·refine goh trivial ?_
   exact finh [] trivial
 ·simp [no, ifp] at hp
@[go_sem] def ctToEs : Ct := ⟨false, [[some .ent]], fun args os => match args, os with
  | [.one (.isl .ent xs)], [] => ⟨xs.length ≤ 4000000, .one (.osl .ent 0 0 xs.length), [], [.arr .ent xs]⟩
  | _, _ => no⟩
@[go_sem] def sgToEs (xs : List Ent) (i : Nat) : Sg := ⟨[(0, .one (.isl .ent xs)), (3, .one (.osl .ent 0 0 xs.length)), (4, vi i)], [some (.arr .ent (mix xs (List.replicate xs.length ET.ent.dflt) i))], []⟩
theorem s_toEs_e : EnterOk Tryz.prog 91 := ⟨_, Tryz.func91, rfl, by decide⟩
@[go_sem] def s_toEs_lv : List (List Nat) := [[0], [0, 3], [0, 3, 4], [0, 3, 4, 11], [0, 3, 4], [0, 3, 4], [2]]
@[go_sem] noncomputable def s_toEs_K : Known := (Known.nil).cons 161 ctToPtr s_toEnt s_toEnt_e
set_option maxHeartbeats 8000000 in
theorem s_toEs : Sound Tryz.prog 91 ctToEs := by
 have ke := s_toEs_K.env []
 have kl : Lives s_toEs_lv := trivial
 refine sound_intro (E := ⟨ti, s_toEs_K.Γ, []⟩) ke Tryz.func91 Tryz.ntmps91 rfl (rs := [.tmp 2]) rfl ?_
 intro args os hp
 unfold ctToEs at hp ⊢
 dsimp only at hp ⊢
 split at hp
 ·rename_i xs
  refine ⟨by simp, fun φ0 w0 => ?_⟩
  have hlen : xs.length ≤ 4000000 := hp
  clear hp
  refine goh trivial ?_
  refine W_le (σ' := sgToEs xs 0) [some 0] (by
   simp only [go_sem, mix_zero, inj_r, ↓reduceIte, reduceCtorEq, Nat.reduceAdd, Nat.reduceLT, Nat.reduceLeDiff, Nat.reduceEqDiff, Int.reduceEq]
   all_goals (repeat' refine And.intro ?_ ?_) <;> try exact shut7
   ) ?_
  refine W_loop (fun n σ => ∃ i : Nat, i ≤ xs.length ∧ n = xs.length - i ∧ σ = sgToEs xs i) xs.length ⟨0, by omega, by omega, rfl⟩ ?_
  rintro n σ ⟨i, hi, rfl, rfl⟩
  unfold sgToEs
  have hm := mix_len xs (List.replicate xs.length ET.ent.dflt) i (by simp)
  rw [List.length_replicate] at hm
  refine goh hm ?_
  refine W_cnd ?_ ?_ <;> (try simp only [cnd_r]) <;> intro hlt
  ·have hs := mix_set xs (List.replicate xs.length ET.ent.dflt) i ET.ent.dflt (by simp) (by simp; omega) rfl
   refine goh hm ?_
   refine ⟨xs.length - (i + 1), [some 0], sgToEs xs (i + 1), by omega, ?_, i + 1, by omega, rfl, rfl⟩
   exact leh (And.intro hs hm)
  ·have hs := mix_all xs (List.replicate xs.length ET.ent.dflt) i (by simp) (by simp; omega)
   refine goh hm ?_
   exact finh [some 0] hs
 ·simp [no] at hp
@[go_sem] def ctEqEs : Ct := ⟨false, [[some .ent], [some .ent]], fun args os => match args, os with
  | [.one (.isl .ent xs), .one (.isl .ent ys)], [] => ifp (xs = ys ∧ xs.length ≤ 4000000) (vb true)
  | _, _ => no⟩
@[go_sem] def sgEqEs (xs : List Ent) (i : Nat) : Sg := ⟨[(0, .one (.isl .ent xs)), (1, .one (.isl .ent xs)), (5, vi i)], [], []⟩
theorem s_eqEs_e : EnterOk Tryz.prog 65 := ⟨_, Tryz.func65, rfl, by decide⟩
@[go_sem] def s_eqEs_lv : List (List Nat) := [[0, 1], [0, 1, 10], [4], [0, 1, 5], [0, 1, 5, 14], [0, 1, 5], [0, 1, 5, 26], [4], [4]]
@[go_sem] noncomputable def s_eqEs_K : Known := (Known.nil).cons 153 ctEqPtr s_eqEnt s_eqEnt_e
set_option maxHeartbeats 8000000 in
theorem s_eqEs : Sound Tryz.prog 65 ctEqEs := by
 have ke := s_eqEs_K.env []
 have kl : Lives s_eqEs_lv := trivial
 refine sound_intro (E := ⟨ti, s_eqEs_K.Γ, []⟩) ke Tryz.func65 Tryz.ntmps65 rfl (rs := [.tmp 4]) rfl ?_
 intro args os hp
 unfold ctEqEs at hp ⊢
 dsimp only at hp ⊢
 split at hp
 ·rename_i xs ys
  refine ⟨by simp, fun φ0 w0 => ?_⟩
  obtain ⟨rfl, hlen⟩ : xs = ys ∧ xs.length ≤ 4000000 := hp
  refine goh trivial ?_
  refine W_cnd ?_ ?_ <;> intro hlit <;> try (cases hlit; done)
  refine goh trivial ?_
  refine W_le (σ' := sgEqEs xs 0) [] (by
   simp only [go_sem, inj_r, ↓reduceIte, reduceCtorEq, Nat.reduceAdd, Nat.reduceLT, Nat.reduceLeDiff, Nat.reduceEqDiff, Int.reduceEq]
   all_goals (repeat' refine And.intro ?_ ?_) <;> try exact shut7
   ) ?_
  refine W_loop (fun n σ => ∃ i : Nat, i ≤ xs.length ∧ n = xs.length - i ∧ σ = sgEqEs xs i) xs.length ⟨0, by omega, by omega, rfl⟩ ?_
  rintro n σ ⟨i, hi, rfl, rfl⟩
  unfold sgEqEs
  refine goh trivial ?_
  refine W_cnd ?_ ?_ <;> (try simp only [cnd_r]) <;> intro hlt
  ·refine goh trivial ?_
   refine W_cnd ?_ ?_ <;> intro hlit <;> try (cases hlit; done)
   refine goh trivial ?_
   refine ⟨xs.length - (i + 1), [], sgEqEs xs (i + 1), by omega, ?_, i + 1, by omega, rfl, rfl⟩
   exact leh trivial
  ·refine goh trivial ?_
   exact finh [] trivial
 ·simp [no, ifp] at hp
@[go_sem] def ctToCs : Ct := ⟨false, [[some .cset]], fun args os => match args, os with
  | [.one (.isl .cset xs)], [] => ⟨xs.length ≤ 4000000, .one (.osl .cset 0 0 xs.length), [], [.arr .cset xs]⟩
  | _, _ => no⟩
@[go_sem] def sgToCs (xs : List CSet) (i : Nat) : Sg := ⟨[(0, .one (.isl .cset xs)), (3, .one (.osl .cset 0 0 xs.length)), (4, vi i)], [some (.arr .cset (mix xs (List.replicate xs.length ET.cset.dflt) i))], []⟩
theorem s_toCs_e : EnterOk Tryz.prog 90 := ⟨_, Tryz.func90, rfl, by decide⟩
@[go_sem] def s_toCs_lv : List (List Nat) := [[0], [0, 3], [0, 3, 4], [0, 3, 4, 11], [0, 3, 4], [0, 3, 4], [2]]
@[go_sem] noncomputable def s_toCs_K : Known := (Known.nil).cons 160 ctToCset s_toCset s_toCset_e
set_option maxHeartbeats 8000000 in
theorem s_toCs : Sound Tryz.prog 90 ctToCs := by
 have ke := s_toCs_K.env []
 have kl : Lives s_toCs_lv := trivial
 refine sound_intro (E := ⟨ti, s_toCs_K.Γ, []⟩) ke Tryz.func90 Tryz.ntmps90 rfl (rs := [.tmp 2]) rfl ?_
 intro args os hp
 unfold ctToCs at hp ⊢
 dsimp only at hp ⊢
 split at hp
 ·rename_i xs
  refine ⟨by simp, fun φ0 w0 => ?_⟩
  have hlen : xs.length ≤ 4000000 := hp
  clear hp
  refine goh trivial ?_
  refine W_le (σ' := sgToCs xs 0) [some 0] (by
   simp only [go_sem, mix_zero, inj_r, ↓reduceIte, reduceCtorEq, Nat.reduceAdd, Nat.reduceLT, Nat.reduceLeDiff, Nat.reduceEqDiff, Int.reduceEq]
   all_goals (repeat' refine And.intro ?_ ?_) <;> try exact shut7
   ) ?_
  refine W_loop (fun n σ => ∃ i : Nat, i ≤ xs.length ∧ n = xs.length - i ∧ σ = sgToCs xs i) xs.length ⟨0, by omega, by omega, rfl⟩ ?_
  rintro n σ ⟨i, hi, rfl, rfl⟩
  unfold sgToCs
  have hm := mix_len xs (List.replicate xs.length ET.cset.dflt) i (by simp)
  rw [List.length_replicate] at hm
  refine goh hm ?_
  refine W_cnd ?_ ?_ <;> (try simp only [cnd_r]) <;> intro hlt
  ·have hs := mix_set xs (List.replicate xs.length ET.cset.dflt) i ET.cset.dflt (by simp) (by simp; omega) rfl
   refine goh hm ?_
   refine ⟨xs.length - (i + 1), [some 0], sgToCs xs (i + 1), by omega, ?_, i + 1, by omega, rfl, rfl⟩
   exact leh (And.intro hs hm)
  ·have hs := mix_all xs (List.replicate xs.length ET.cset.dflt) i (by simp) (by simp; omega)
   refine goh hm ?_
   exact finh [some 0] hs
 ·simp [no] at hp
@[go_sem] def ctEqCs : Ct := ⟨false, [[some .cset], [some .cset]], fun args os => match args, os with
  | [.one (.isl .cset xs), .one (.isl .cset ys)], [] => ifp (xs = ys ∧ xs.length ≤ 4000000) (vb true)
  | _, _ => no⟩
@[go_sem] def sgEqCs (xs : List CSet) (i : Nat) : Sg := ⟨[(0, .one (.isl .cset xs)), (1, .one (.isl .cset xs)), (5, vi i)], [], []⟩
theorem s_eqCs_e : EnterOk Tryz.prog 64 := ⟨_, Tryz.func64, rfl, by decide⟩
@[go_sem] def s_eqCs_lv : List (List Nat) := [[0, 1], [0, 1, 10], [4], [0, 1, 5], [0, 1, 5, 14], [0, 1, 5], [0, 1, 5, 26], [4], [4]]
@[go_sem] noncomputable def s_eqCs_K : Known := (Known.nil).cons 152 ctEqCset s_eqCset s_eqCset_e
set_option maxHeartbeats 8000000 in
theorem s_eqCs : Sound Tryz.prog 64 ctEqCs := by
 have ke := s_eqCs_K.env []
 have kl : Lives s_eqCs_lv := trivial
 refine sound_intro (E := ⟨ti, s_eqCs_K.Γ, []⟩) ke Tryz.func64 Tryz.ntmps64 rfl (rs := [.tmp 4]) rfl ?_
 intro args os hp
 unfold ctEqCs at hp ⊢
 dsimp only at hp ⊢
 split at hp
 ·rename_i xs ys
  refine ⟨by simp, fun φ0 w0 => ?_⟩
  obtain ⟨rfl, hlen⟩ : xs = ys ∧ xs.length ≤ 4000000 := hp
  refine goh trivial ?_
  refine W_cnd ?_ ?_ <;> intro hlit <;> try (cases hlit; done)
  refine goh trivial ?_
  refine W_le (σ' := sgEqCs xs 0) [] (by
   simp only [go_sem, inj_r, ↓reduceIte, reduceCtorEq, Nat.reduceAdd, Nat.reduceLT, Nat.reduceLeDiff, Nat.reduceEqDiff, Int.reduceEq]
   all_goals (repeat' refine And.intro ?_ ?_) <;> try exact shut7
   ) ?_
  refine W_loop (fun n σ => ∃ i : Nat, i ≤ xs.length ∧ n = xs.length - i ∧ σ = sgEqCs xs i) xs.length ⟨0, by omega, by omega, rfl⟩ ?_
  rintro n σ ⟨i, hi, rfl, rfl⟩
  unfold sgEqCs
  refine goh trivial ?_
  refine W_cnd ?_ ?_ <;> (try simp only [cnd_r]) <;> intro hlt
  ·refine goh trivial ?_
   refine W_cnd ?_ ?_ <;> intro hlit <;> try (cases hlit; done)
   refine goh trivial ?_
   refine ⟨xs.length - (i + 1), [], sgEqCs xs (i + 1), by omega, ?_, i + 1, by omega, rfl, rfl⟩
   exact leh trivial
  ·refine goh trivial ?_
   exact finh [] trivial
 ·simp [no, ifp] at hp
@[go_sem] def ctSzPs : Ct := ⟨false, [[some .ptr]], fun args os => match args, os with
  | [.one (.isl .ptr xs), .one (.val (.int .i64 n))], [] => ifp (xs.length ≤ 9223372036854775807 ∧ 0 ≤ n ∧ n ≤ 1048576) (vi (szW [xs.length] n))
  | _, _ => no⟩
theorem s_szPs_e : EnterOk Tryz.prog 82 := ⟨_, Tryz.func82, rfl, by decide⟩
@[go_sem] def s_szPs_lv : List (List Nat) := [[0, 1], [1], [1, 10], [4], [4]]
@[go_sem] noncomputable def s_szPs_K : Known := Known.nil
set_option maxHeartbeats 8000000 in
theorem s_szPs : Sound Tryz.prog 82 ctSzPs := by
 have ke := s_szPs_K.env []
 have kl : Lives s_szPs_lv := trivial
 refine sound_intro (E := ⟨ti, s_szPs_K.Γ, []⟩) ke Tryz.func82 Tryz.ntmps82 rfl (rs := [.tmp 4]) rfl ?_
 intro args os hp
 unfold ctSzPs at hp ⊢
 dsimp only at hp ⊢
 split at hp
 ·rename_i xs n
  refine ⟨by simp, fun φ0 w0 => ?_⟩
  obtain ⟨h1, h3, h4⟩ : xs.length ≤ 9223372036854775807 ∧ 0 ≤ n ∧ n ≤ 1048576 := hp
  have e1 : IntKind.i64.wrap (n - xs.length) = n - xs.length := wrap_id _ (by omega) (by omega)
  have f1 : szW [xs.length] n = if n - xs.length < 0 then -1 else n - xs.length := rfl
  refine goh e1 ?_
  refine W_cnd ?_ ?_ <;> (try simp only [cnd_r]) <;> intro hc
  ·rw [if_pos hc] at f1
   refine goh trivial ?_
   exact finh [] f1
  ·rw [if_neg hc] at f1
   refine goh trivial ?_
   exact finh [] f1
 ·simp [no, ifp] at hp
@[go_sem] def ctSzEs : Ct := ⟨false, [[some .ent]], fun args os => match args, os with
  | [.one (.isl .ent xs), .one (.val (.int .i64 n))], [] => ifp (xs.length ≤ 9223372036854775807 ∧ 0 ≤ n ∧ n ≤ 1048576) (vi (szW [xs.length] n))
  | _, _ => no⟩
theorem s_szEs_e : EnterOk Tryz.prog 81 := ⟨_, Tryz.func81, rfl, by decide⟩
@[go_sem] def s_szEs_lv : List (List Nat) := [[0, 1], [1], [1, 10], [4], [4]]
@[go_sem] noncomputable def s_szEs_K : Known := Known.nil
set_option maxHeartbeats 8000000 in
theorem s_szEs : Sound Tryz.prog 81 ctSzEs := by
 have ke := s_szEs_K.env []
 have kl : Lives s_szEs_lv := trivial
 refine sound_intro (E := ⟨ti, s_szEs_K.Γ, []⟩) ke Tryz.func81 Tryz.ntmps81 rfl (rs := [.tmp 4]) rfl ?_
 intro args os hp
 unfold ctSzEs at hp ⊢
 dsimp only at hp ⊢
 split at hp
 ·rename_i xs n
  refine ⟨by simp, fun φ0 w0 => ?_⟩
  obtain ⟨h1, h3, h4⟩ : xs.length ≤ 9223372036854775807 ∧ 0 ≤ n ∧ n ≤ 1048576 := hp
  have e1 : IntKind.i64.wrap (n - xs.length) = n - xs.length := wrap_id _ (by omega) (by omega)
  have f1 : szW [xs.length] n = if n - xs.length < 0 then -1 else n - xs.length := rfl
  refine goh e1 ?_
  refine W_cnd ?_ ?_ <;> (try simp only [cnd_r]) <;> intro hc
  ·rw [if_pos hc] at f1
   refine goh trivial ?_
   exact finh [] f1
  ·rw [if_neg hc] at f1
   refine goh trivial ?_
   exact finh [] f1
 ·simp [no, ifp] at hp
@[go_sem] def ctSzI : Ct := ⟨false, [[some .int]], fun args os => match args, os with
  | [.one (.isl .int xs), .one (.val (.int .i64 n))], [] => ifp (xs.length ≤ 9223372036854775807 ∧ 0 ≤ n ∧ n ≤ 1048576) (vi (szW [xs.length] n))
  | _, _ => no⟩
theorem s_szI_e : EnterOk Tryz.prog 83 := ⟨_, Tryz.func83, rfl, by decide⟩
@[go_sem] def s_szI_lv : List (List Nat) := [[0, 1], [1], [1, 10], [4], [4]]
@[go_sem] noncomputable def s_szI_K : Known := Known.nil
set_option maxHeartbeats 8000000 in
theorem s_szI : Sound Tryz.prog 83 ctSzI := by
 have ke := s_szI_K.env []
 have kl : Lives s_szI_lv := trivial
 refine sound_intro (E := ⟨ti, s_szI_K.Γ, []⟩) ke Tryz.func83 Tryz.ntmps83 rfl (rs := [.tmp 4]) rfl ?_
 intro args os hp
 unfold ctSzI at hp ⊢
 dsimp only at hp ⊢
 split at hp
 ·rename_i xs n
  refine ⟨by simp, fun φ0 w0 => ?_⟩
  obtain ⟨h1, h3, h4⟩ : xs.length ≤ 9223372036854775807 ∧ 0 ≤ n ∧ n ≤ 1048576 := hp
  have e1 : IntKind.i64.wrap (n - xs.length) = n - xs.length := wrap_id _ (by omega) (by omega)
  have f1 : szW [xs.length] n = if n - xs.length < 0 then -1 else n - xs.length := rfl
  refine goh e1 ?_
  refine W_cnd ?_ ?_ <;> (try simp only [cnd_r]) <;> intro hc
  ·rw [if_pos hc] at f1
   refine goh trivial ?_
   exact finh [] f1
  ·rw [if_neg hc] at f1
   refine goh trivial ?_
   exact finh [] f1
 ·simp [no, ifp] at hp
structure inC (xs : List CSet) : Prop where
 len : xs.length ≤ 9223372036854775807
 all : ∀ i : Nat, (xs.getD i ET.cset.dflt).name.size ≤ 9223372036854775807 ∧ (xs.getD i ET.cset.dflt).from_.size ≤ 9223372036854775807
def wC (xs : List CSet) : List Nat := xs.length :: xs.flatMap wC1
theorem drop_flat {α : Type} (f : α → List Nat) (xs : List α) (i : Nat) (d : α) (h : i < xs.length) : (xs.drop i).flatMap f = f (xs.getD i d) ++ (xs.drop (i + 1)).flatMap f := by
 rw [List.drop_eq_getElem_cons h, List.flatMap_cons]
 simp [h]
@[go_sem] def ctSzCs : Ct := ⟨false, [[some .cset]], fun args os => match args, os with
  | [.one (.isl .cset xs), .one (.val (.int .i64 n))], [] => ifp (inC xs ∧ 0 ≤ n ∧ n ≤ 1048576) (vi (szW (wC xs) n))
  | _, _ => no⟩
@[go_sem] def sgSzCs (xs : List CSet) (n : Int) (i : Nat) : Sg := ⟨[(0, .one (.isl .cset xs)), (1, vi n), (5, vi i)], [], []⟩
theorem s_szCs_e : EnterOk Tryz.prog 80 := ⟨_, Tryz.func80, rfl, by decide⟩
@[go_sem] def s_szCs_lv : List (List Nat) := [[0, 1], [0, 1], [0, 1, 11], [4], [0, 1, 5], [0, 1, 5, 15], [0, 1, 5], [0, 1, 5], [0, 1, 5, 25], [4], [4]]
@[go_sem] noncomputable def s_szCs_K : Known := (Known.nil).cons 158 ctSzCset s_szCset s_szCset_e
set_option maxHeartbeats 8000000 in
theorem s_szCs : Sound Tryz.prog 80 ctSzCs := by
 have ke := s_szCs_K.env []
 have kl : Lives s_szCs_lv := trivial
 refine sound_intro (E := ⟨ti, s_szCs_K.Γ, []⟩) ke Tryz.func80 Tryz.ntmps80 rfl (rs := [.tmp 4]) rfl ?_
 intro args os hp
 unfold ctSzCs at hp ⊢
 dsimp only at hp ⊢
 split at hp
 ·rename_i xs n
  refine ⟨by simp, fun φ0 w0 => ?_⟩
  obtain ⟨⟨h1, h2⟩, h3, h4⟩ : inC xs ∧ 0 ≤ n ∧ n ≤ 1048576 := hp
  have e1 : IntKind.i64.wrap (n - xs.length) = n - xs.length := wrap_id _ (by omega) (by omega)
  refine goh e1 ?_
  refine W_cnd ?_ ?_ <;> (try simp only [cnd_r]) <;> intro hc
  ·have e2 : szW (wC xs) n = -1 := by unfold wC szW; rw [if_pos hc]
   refine goh trivial ?_
   exact finh [] e2
  ·obtain ⟨R, hR⟩ : ∃ R, szW (wC xs) n = R := ⟨_, rfl⟩
   have e2 : szW ((xs.drop 0).flatMap wC1) (n - xs.length) = R := by rw [← hR]; show _ = szW (xs.length :: _) n; conv => rhs; unfold szW
                                                                     rw [if_neg hc]; rfl
   refine goh trivial ?_
   refine W_le (σ' := sgSzCs xs (n - xs.length) 0) [] (by
    simp only [go_sem, inj_r, ↓reduceIte, reduceCtorEq, Nat.reduceAdd, Nat.reduceLT, Nat.reduceLeDiff, Nat.reduceEqDiff, Int.reduceEq]
    all_goals (repeat' refine And.intro ?_ ?_) <;> try exact shut7
    ) ?_
   refine W_loop (fun q σ => ∃ (i : Nat) (m : Int), i ≤ xs.length ∧ q = xs.length - i ∧ 0 ≤ m ∧ m ≤ 1048576 ∧ szW ((xs.drop i).flatMap wC1) m = R ∧ σ = sgSzCs xs m i) xs.length ⟨0, _, by omega, by omega, by omega, by omega, e2, rfl⟩ ?_
   rintro q σ ⟨i, m, hi, rfl, hm1, hm2, hs, rfl⟩
   unfold sgSzCs
   refine goh trivial ?_
   refine W_cnd ?_ ?_ <;> (try simp only [cnd_r]) <;> intro hlt
   ·have hli : i < xs.length := by omega
    obtain ⟨h5, h6⟩ := h2 i
    rw [drop_flat _ _ _ ET.cset.dflt hli] at hs
    have e3 := szW_app (wC1 (xs.getD i ET.cset.dflt)) ((xs.drop (i + 1)).flatMap wC1) m hm1
    rw [hs] at e3
    have hin := szW_in (wC1 (xs.getD i ET.cset.dflt)) m hm1
    refine goh trivial ?_
    refine W_cnd ?_ ?_ <;> (try simp only [cnd_r]) <;> intro hn
    ·rw [if_pos hn] at e3
     refine goh trivial ?_
     exact finh [] (And.intro hR e3)
    ·rw [if_neg hn] at e3
     refine goh trivial ?_
     refine ⟨xs.length - (i + 1), [], sgSzCs xs (szW (wC1 (xs.getD i ET.cset.dflt)) m) (i + 1), by omega, ?_, i + 1, _, by omega, rfl, by omega, by omega, e3.symm, rfl⟩
     exact leh trivial
   ·rw [List.drop_of_length_le (by omega)] at hs
    refine goh trivial ?_
    exact finh [] (And.intro hR hs)
 ·simp [no, ifp] at hp
end Go.Proofs.YtfmjgoeclilcnaaGreatDoor
namespace Go.Proofs.YtfmjgoeclilcnaaGreatDoor
open Go.RowKit
@[go_sem] theorem valsEq_cset (xn xf yn yf : ByteArray) (xk yk : Int) (x0 x1 x2 x3 x4 x5 x6 x7 x8 x9 x10 x11 x12 x13 x14 x15 x16 x17 x18 x19 x20 x21 x22 x23 x24 x25 x26 : Int) (y0 y1 y2 y3 y4 y5 y6 y7 y8 y9 y10 y11 y12 y13 y14 y15 y16 y17 y18 y19 y20 y21 y22 y23 y24 y25 y26 : Int) (xd yd : Bool) : valsEq [.string xn, .int .i64 xk, .string xf, .int .i64 x0, .int .i64 x1, .int .i64 x2, .int .i64 x3, .int .i64 x4, .int .i64 x5, .int .i64 x6, .int .i64 x7, .int .i64 x8, .int .i64 x9, .int .i64 x10, .int .i64 x11, .int .i64 x12, .int .i64 x13, .int .i64 x14, .int .i64 x15, .int .i64 x16, .int .i64 x17, .int .i64 x18, .int .i64 x19, .int .i64 x20, .int .i64 x21, .int .i64 x22, .int .i64 x23, .int .i64 x24, .int .i64 x25, .int .i64 x26, .bool xd] [.string yn, .int .i64 yk, .string yf, .int .i64 y0, .int .i64 y1, .int .i64 y2, .int .i64 y3, .int .i64 y4, .int .i64 y5, .int .i64 y6, .int .i64 y7, .int .i64 y8, .int .i64 y9, .int .i64 y10, .int .i64 y11, .int .i64 y12, .int .i64 y13, .int .i64 y14, .int .i64 y15, .int .i64 y16, .int .i64 y17, .int .i64 y18, .int .i64 y19, .int .i64 y20, .int .i64 y21, .int .i64 y22, .int .i64 y23, .int .i64 y24, .int .i64 y25, .int .i64 y26, .bool yd] = same (CSet.mk xn xk xf ⟨⟨x0, x1, x2⟩, ⟨x3, x4, x5⟩, ⟨x6, x7, x8⟩, ⟨x9, x10, x11⟩, ⟨x12, x13, x14⟩, ⟨x15, x16, x17⟩, ⟨x18, x19, x20⟩, ⟨x21, x22, x23⟩⟩ ⟨x24, x25, x26⟩ xd) (CSet.mk yn yk yf ⟨⟨y0, y1, y2⟩, ⟨y3, y4, y5⟩, ⟨y6, y7, y8⟩, ⟨y9, y10, y11⟩, ⟨y12, y13, y14⟩, ⟨y15, y16, y17⟩, ⟨y18, y19, y20⟩, ⟨y21, y22, y23⟩⟩ ⟨y24, y25, y26⟩ yd) := by
  rw [Bool.eq_iff_iff, same_true]
  simp only [valsEq, toList_same, Bool.and_eq_true, beq_iff_eq, same_true, CSet.mk.injEq, Eight.mk.injEq, Ptr.mk.injEq, and_assoc, and_true]
end Go.Proofs.YtfmjgoeclilcnaaGreatDoor
namespace Go.Proofs.YtfmjgoeclilcnaaGreatDoor
open Go.RowKit
structure Co.inn (c : Co) : Prop where
 sets : inC c.sets
 ddt : c.ddt.length ≤ 9223372036854775807
 parts : c.parts.length ≤ 9223372036854775807
 safe : c.safe.length ≤ 9223372036854775807
def Co.wt (c : Co) : List Nat := wC c.sets ++ ([c.ddt.length] ++ ([c.parts.length] ++ [c.safe.length]))
@[go_sem] def Co.v (c : Co) (n : Nat) : TV := .agg [.val (.int .i64 c.txg), .osl .cset n 0 c.sets.length, .osl .ent (n + 1) 0 c.ddt.length, .osl .ptr (n + 2) 0 c.parts.length, .val (.bool c.dirty), .osl .int (n + 3) 0 c.safe.length, .val (.int .i64 c.logn)]
@[go_sem] def Co.objs (c : Co) : List Obj := [.arr .cset c.sets, .arr .ent c.ddt, .arr .ptr c.parts, .arr .int c.safe]
@[go_sem] def ctSzCore : Ct := ⟨false, [[none, some .cset, some .ent, some .ptr, none, some .int, none]], fun args os => match args, os with
  | [.agg [.val (.int .i64 x), .isl .cset cs, .isl .ent es, .isl .ptr ps, .val (.bool y), .isl .int zs, .val (.int .i64 u)], .one (.val (.int .i64 n))], [] => ifp ((Co.mk x cs es ps y zs u).inn ∧ 0 ≤ n ∧ n ≤ 1048576) (vi (szW (Co.mk x cs es ps y zs u).wt n))
  | _, _ => no⟩
theorem s_szCore_e : EnterOk Tryz.prog 30 := ⟨_, Tryz.func30, rfl, by decide⟩
@[go_sem] def s_szCore_lv : List (List Nat) := [[1, 2], [1, 2], [1, 2, 10], [4], [1, 2], [1, 2, 16], [4], [1, 2], [1, 2, 22], [4], [1], [1, 28], [4], [4]]
@[go_sem] noncomputable def s_szCore_K : Known := ((((Known.nil).cons 80 ctSzCs s_szCs s_szCs_e).cons 81 ctSzEs s_szEs s_szEs_e).cons 82 ctSzPs s_szPs s_szPs_e).cons 83 ctSzI s_szI s_szI_e
set_option maxHeartbeats 8000000 in
theorem s_szCore : Sound Tryz.prog 30 ctSzCore := by
 have ke := s_szCore_K.env []
 have kl : Lives s_szCore_lv := trivial
 refine sound_intro (E := ⟨ti, s_szCore_K.Γ, []⟩) ke Tryz.func30 Tryz.ntmps30 rfl (rs := [.tmp 4]) rfl ?_
 intro args os hp
 unfold ctSzCore at hp ⊢
 dsimp only at hp ⊢
 split at hp
 ·rename_i x cs es ps y zs u n
  refine ⟨by simp, fun φ0 w0 => ?_⟩
  obtain ⟨⟨h1, h2, h3, h4⟩, h5, h6⟩ : (Co.mk x cs es ps y zs u).inn ∧ 0 ≤ n ∧ n ≤ 1048576 := hp
  simp only at h1 h2 h3 h4
  have e0 : szW (Co.mk x cs es ps y zs u).wt n = szW (wC cs ++ ([es.length] ++ ([ps.length] ++ [zs.length]))) n := rfl
  have e1 := szW_app (wC cs) ([es.length] ++ ([ps.length] ++ [zs.length])) n h5
  have i1 := szW_in (wC cs) n h5
  refine goh trivial ?_
  refine W_cnd ?_ ?_ <;> (try simp only [cnd_r]) <;> intro hc1
  ·rw [if_pos hc1] at e1
   refine goh trivial ?_
   have ez := (e0.trans e1)
   exact finh [] ez
  ·rw [if_neg hc1] at e1
   obtain ⟨m1, hm1⟩ : ∃ m, szW (wC cs) n = m := ⟨_, rfl⟩
   rw [hm1] at e1 i1 hc1
   have e2 := szW_app [es.length] ([ps.length] ++ [zs.length]) m1 (by omega)
   have i2 := szW_in [es.length] m1 (by omega)
   refine goh hm1 ?_
   refine W_cnd ?_ ?_ <;> (try simp only [cnd_r]) <;> intro hc2
   ·rw [if_pos hc2] at e2
    refine goh trivial ?_
    have ez := ((e0.trans e1).trans e2)
    exact finh [] ez
   ·rw [if_neg hc2] at e2
    obtain ⟨m2, hm2⟩ : ∃ m, szW [es.length] m1 = m := ⟨_, rfl⟩
    rw [hm2] at e2 i2 hc2
    have e3 := szW_app [ps.length] [zs.length] m2 (by omega)
    have i3 := szW_in [ps.length] m2 (by omega)
    refine goh hm2 ?_
    refine W_cnd ?_ ?_ <;> (try simp only [cnd_r]) <;> intro hc3
    ·rw [if_pos hc3] at e3
     refine goh trivial ?_
     have ez := (((e0.trans e1).trans e2).trans e3)
     exact finh [] ez
    ·rw [if_neg hc3] at e3
     obtain ⟨m3, hm3⟩ : ∃ m, szW [ps.length] m2 = m := ⟨_, rfl⟩
     rw [hm3] at e3 i3 hc3
     have i4 := szW_in [zs.length] m3 (by omega)
     refine goh hm3 ?_
     refine W_cnd ?_ ?_ <;> (try simp only [cnd_r]) <;> intro hc4
     ·have e4 : szW [zs.length] m3 = -1 := by omega
      refine goh trivial ?_
      have ez := ((((e0.trans e1).trans e2).trans e3).trans e4)
      exact finh [] ez
     ·refine goh trivial ?_
      have ez := (((e0.trans e1).trans e2).trans e3)
      exact finh [] ez
 ·simp [no, ifp] at hp
def Pl.wt (p : Pl) : List Nat := p.disk.wt ++ p.core.wt
structure Pl.inn (p : Pl) : Prop where
 disk : p.disk.inn
 core : p.core.inn
@[go_sem] def ctSzPool : Ct := ⟨false, [[some .str, some .str, some .late, none, some .cset, some .ent, some .ptr, none, some .int, none, none]], fun args os => match args, os with
  | [.agg [.isl .str a, .isl .str b, .isl .late l, .val (.int .i64 x), .isl .cset cs, .isl .ent es, .isl .ptr ps, .val (.bool y), .isl .int zs, .val (.int .i64 u), .val (.bool o)], .one (.val (.int .i64 n))], [] => ifp ((Pl.mk ⟨a, b, l⟩ ⟨x, cs, es, ps, y, zs, u⟩ o).inn ∧ 0 ≤ n ∧ n ≤ 1048576) (vi (szW (Pl.mk ⟨a, b, l⟩ ⟨x, cs, es, ps, y, zs, u⟩ o).wt n))
  | _, _ => no⟩
theorem s_szPool_e : EnterOk Tryz.prog 7 := ⟨_, Tryz.func7, rfl, by decide⟩
@[go_sem] def s_szPool_lv : List (List Nat) := [[1, 2], [1, 2], [1, 2, 10], [4], [1], [1, 16], [4], [4]]
@[go_sem] noncomputable def s_szPool_K : Known := ((Known.nil).cons 14 ctSzDisk s_szDisk s_szDisk_e).cons 30 ctSzCore s_szCore s_szCore_e
set_option maxHeartbeats 8000000 in
theorem s_szPool : Sound Tryz.prog 7 ctSzPool := by
 have ke := s_szPool_K.env []
 have kl : Lives s_szPool_lv := trivial
 refine sound_intro (E := ⟨ti, s_szPool_K.Γ, []⟩) ke Tryz.func7 Tryz.ntmps7 rfl (rs := [.tmp 4]) rfl ?_
 intro args os hp
 unfold ctSzPool at hp ⊢
 dsimp only at hp ⊢
 split at hp
 ·rename_i a b l x cs es ps y zs u o n
  refine ⟨by simp, fun φ0 w0 => ?_⟩
  obtain ⟨⟨h1, h2⟩, h5, h6⟩ : (Pl.mk ⟨a, b, l⟩ ⟨x, cs, es, ps, y, zs, u⟩ o).inn ∧ 0 ≤ n ∧ n ≤ 1048576 := hp
  simp only at h1 h2
  have e0 : szW (Pl.mk ⟨a, b, l⟩ ⟨x, cs, es, ps, y, zs, u⟩ o).wt n = szW ((Dk.mk a b l).wt ++ (Co.mk x cs es ps y zs u).wt) n := rfl
  have e1 := szW_app (Dk.mk a b l).wt (Co.mk x cs es ps y zs u).wt n h5
  have i1 := szW_in (Dk.mk a b l).wt n h5
  refine goh trivial ?_
  refine W_cnd ?_ ?_ <;> (try simp only [cnd_r]) <;> intro hc1
  ·rw [if_pos hc1] at e1
   refine goh trivial ?_
   have ez := (e0.trans e1)
   exact finh [] ez
  ·rw [if_neg hc1] at e1
   obtain ⟨m1, hm1⟩ : ∃ m, szW (Dk.mk a b l).wt n = m := ⟨_, rfl⟩
   rw [hm1] at e1 i1 hc1
   have i2 := szW_in (Co.mk x cs es ps y zs u).wt m1 (by omega)
   refine goh hm1 ?_
   refine W_cnd ?_ ?_ <;> (try simp only [cnd_r]) <;> intro hc2
   ·have e2 : szW (Co.mk x cs es ps y zs u).wt m1 = -1 := by omega
    refine goh trivial ?_
    have ez := ((e0.trans e1).trans e2)
    exact finh [] ez
   ·refine goh trivial ?_
    have ez := (e0.trans e1)
    exact finh [] ez
 ·simp [no, ifp] at hp
theorem pool_small {p : Pl} {n : Int} (h : 0 ≤ szW p.wt n) : (p.disk.a.length ≤ n ∧ p.disk.b.length ≤ n ∧ p.disk.l.length ≤ n) ∧ p.core.sets.length ≤ n ∧ p.core.ddt.length ≤ n ∧ p.core.parts.length ≤ n ∧ p.core.safe.length ≤ n :=
 ⟨⟨szW_mem h (by simp [Pl.wt, Dk.wt, wS]), szW_mem h (by simp [Pl.wt, Dk.wt, wS]), szW_mem h (by simp [Pl.wt, Dk.wt, wL])⟩, szW_mem h (by simp [Pl.wt, Co.wt, wC]), szW_mem h (by simp [Pl.wt, Co.wt]), szW_mem h (by simp [Pl.wt, Co.wt]), szW_mem h (by simp [Pl.wt, Co.wt])⟩
@[go_sem] def ctToCore : Ct := ⟨false, [[none, some .cset, some .ent, some .ptr, none, some .int, none]], fun args os => match args, os with
  | [.agg [.val (.int .i64 x), .isl .cset cs, .isl .ent es, .isl .ptr ps, .val (.bool y), .isl .int zs, .val (.int .i64 u)]], [] => ⟨(Co.mk x cs es ps y zs u).small, (Co.mk x cs es ps y zs u).v 0, [], (Co.mk x cs es ps y zs u).objs⟩
  | _, _ => no⟩
theorem s_toCore_e : EnterOk Tryz.prog 36 := ⟨_, Tryz.func36, rfl, by decide⟩
@[go_sem] def s_toCore_lv : List (List Nat) := [[1, 2], [1, 2, 3], [1, 2, 3], [1, 2, 3], [1, 2, 3], [1, 2, 3], [1, 2, 3], [1, 2, 3], [2, 3], [2]]
@[go_sem] noncomputable def s_toCore_K : Known := ((((Known.nil).cons 90 ctToCs s_toCs s_toCs_e).cons 91 ctToEs s_toEs s_toEs_e).cons 92 ctToPs s_toPs s_toPs_e).cons 93 ctToI s_toI s_toI_e
set_option maxHeartbeats 8000000 in
theorem s_toCore : Sound Tryz.prog 36 ctToCore := by
 have ke := s_toCore_K.env []
 have kl : Lives s_toCore_lv := trivial
 refine sound_intro (E := ⟨ti, s_toCore_K.Γ, []⟩) ke Tryz.func36 Tryz.ntmps36 rfl (rs := [.cell 2 43]) rfl ?_
 intro args os hp
 unfold ctToCore at hp ⊢
 dsimp only at hp ⊢
 split at hp
 ·rename_i x cs es ps y zs u
  refine ⟨by simp, fun φ0 w0 => ?_⟩
  obtain ⟨h1, h2, h3, h4⟩ : (Co.mk x cs es ps y zs u).small := hp
  simp only at h1 h2 h3 h4
  refine goh trivial ?_
  exact finh [some 3, some 4, some 5, some 6] trivial
 ·simp [no] at hp
@[go_sem] def Pl.v (p : Pl) : TV := .agg [.osl .str 0 0 p.disk.a.length, .osl .str 1 0 p.disk.b.length, .osl .late 2 0 p.disk.l.length, .val (.int .i64 p.core.txg), .osl .cset 3 0 p.core.sets.length, .osl .ent 4 0 p.core.ddt.length, .osl .ptr 5 0 p.core.parts.length, .val (.bool p.core.dirty), .osl .int 6 0 p.core.safe.length, .val (.int .i64 p.core.logn), .val (.bool p.up)]
@[go_sem] def Pl.objs (p : Pl) : List Obj := [.arr .str p.disk.a, .arr .str p.disk.b, .arr .late p.disk.l, .arr .cset p.core.sets, .arr .ent p.core.ddt, .arr .ptr p.core.parts, .arr .int p.core.safe]
def Pl.small (p : Pl) : Prop := p.disk.small ∧ p.core.small
@[go_sem] def ctToPool : Ct := ⟨false, [[some .str, some .str, some .late, none, some .cset, some .ent, some .ptr, none, some .int, none, none]], fun args os => match args, os with
  | [.agg [.isl .str a, .isl .str b, .isl .late l, .val (.int .i64 x), .isl .cset cs, .isl .ent es, .isl .ptr ps, .val (.bool y), .isl .int zs, .val (.int .i64 u), .val (.bool o)]], [] => ⟨(Pl.mk ⟨a, b, l⟩ ⟨x, cs, es, ps, y, zs, u⟩ o).small, (Pl.mk ⟨a, b, l⟩ ⟨x, cs, es, ps, y, zs, u⟩ o).v, [], (Pl.mk ⟨a, b, l⟩ ⟨x, cs, es, ps, y, zs, u⟩ o).objs⟩
  | _, _ => no⟩
theorem s_toPool_e : EnterOk Tryz.prog 9 := ⟨_, Tryz.func9, rfl, by decide⟩
@[go_sem] def s_toPool_lv : List (List Nat) := [[1, 2], [1, 2, 3], [1, 2, 3], [1, 2, 3], [2, 3], [2]]
@[go_sem] noncomputable def s_toPool_K : Known := ((Known.nil).cons 16 ctToDisk s_toDisk s_toDisk_e).cons 36 ctToCore s_toCore s_toCore_e
set_option maxHeartbeats 8000000 in
theorem s_toPool : Sound Tryz.prog 9 ctToPool := by
 have ke := s_toPool_K.env []
 have kl : Lives s_toPool_lv := trivial
 refine sound_intro (E := ⟨ti, s_toPool_K.Γ, []⟩) ke Tryz.func9 Tryz.ntmps9 rfl (rs := [.cell 2 45]) rfl ?_
 intro args os hp
 unfold ctToPool at hp ⊢
 dsimp only at hp ⊢
 split at hp
 ·rename_i a b l x cs es ps y zs u o
  refine ⟨by simp, fun φ0 w0 => ?_⟩
  obtain ⟨⟨g1, g2, g3⟩, ⟨h1, h2, h3, h4⟩⟩ : (Pl.mk ⟨a, b, l⟩ ⟨x, cs, es, ps, y, zs, u⟩ o).small := hp
  simp only at g1 g2 g3 h1 h2 h3 h4
  refine goh trivial ?_
  exact finh [some 3, some 4, some 5, some 6, some 7, some 8, some 9] trivial
 ·simp [no] at hp
@[go_sem] def ctEqCore : Ct := ⟨false, [[none, some .cset, some .ent, some .ptr, none, some .int, none], [none, some .cset, some .ent, some .ptr, none, some .int, none]], fun args os => match args, os with
  | [.agg [.val (.int .i64 x), .isl .cset cs, .isl .ent es, .isl .ptr ps, .val (.bool y), .isl .int zs, .val (.int .i64 u)], .agg [.val (.int .i64 x'), .isl .cset cs', .isl .ent es', .isl .ptr ps', .val (.bool y'), .isl .int zs', .val (.int .i64 u')]], [] => ifp ((x = x' ∧ cs = cs' ∧ es = es' ∧ ps = ps' ∧ y = y' ∧ zs = zs' ∧ u = u') ∧ (Co.mk x cs es ps y zs u).small) (vb true)
  | _, _ => no⟩
theorem s_eqCore_e : EnterOk Tryz.prog 18 := ⟨_, Tryz.func18, rfl, by decide⟩
@[go_sem] def s_eqCore_lv : List (List Nat) := [[2, 3], [2, 3, 9], [4], [2, 3, 15], [4], [2, 3, 21], [4], [2, 3, 27], [4], [2, 3, 32], [4], [2, 3, 38], [4], [43], [4], [4]]
@[go_sem] noncomputable def s_eqCore_K : Known := ((((Known.nil).cons 64 ctEqCs s_eqCs s_eqCs_e).cons 65 ctEqEs s_eqEs s_eqEs_e).cons 27 ctEqPs s_eqPs s_eqPs_e).cons 66 ctEqI s_eqI s_eqI_e
set_option maxHeartbeats 8000000 in
theorem s_eqCore : Sound Tryz.prog 18 ctEqCore := by
 have ke := s_eqCore_K.env []
 have kl : Lives s_eqCore_lv := trivial
 refine sound_intro (E := ⟨ti, s_eqCore_K.Γ, []⟩) ke Tryz.func18 Tryz.ntmps18 rfl (rs := [.tmp 4]) rfl ?_
 intro args os hp
 unfold ctEqCore at hp ⊢
 dsimp only at hp ⊢
 split at hp
 ·rename_i x cs es ps y zs u x' cs' es' ps' y' zs' u'
  refine ⟨by simp, fun φ0 w0 => ?_⟩
  obtain ⟨⟨rfl, rfl, rfl, rfl, rfl, rfl, rfl⟩, h1, h2, h3, h4⟩ : (x = x' ∧ cs = cs' ∧ es = es' ∧ ps = ps' ∧ y = y' ∧ zs = zs' ∧ u = u') ∧ (Co.mk x cs es ps y zs u).small := hp
  simp only at h1 h2 h3 h4
  refine goh trivial ?_
  refine W_cnd ?_ ?_ <;> intro hlit <;> try (cases hlit; done)
  refine goh trivial ?_
  refine W_cnd ?_ ?_ <;> intro hlit <;> try (cases hlit; done)
  refine goh trivial ?_
  refine W_cnd ?_ ?_ <;> intro hlit <;> try (cases hlit; done)
  refine goh trivial ?_
  refine W_cnd ?_ ?_ <;> intro hlit <;> try (cases hlit; done)
  refine goh trivial ?_
  refine W_cnd ?_ ?_ <;> intro hlit <;> try (cases hlit; done)
  refine goh trivial ?_
  refine W_cnd ?_ ?_ <;> intro hlit <;> try (cases hlit; done)
  refine goh trivial ?_
  refine W_cnd ?_ ?_ <;> intro hlit <;> try (cases hlit; done)
  refine goh trivial ?_
  exact finh [] trivial
 ·simp [no, ifp] at hp
@[go_sem] def ctEqPool : Ct := ⟨false, [[some .str, some .str, some .late, none, some .cset, some .ent, some .ptr, none, some .int, none, none], [some .str, some .str, some .late, none, some .cset, some .ent, some .ptr, none, some .int, none, none]], fun args os => match args, os with
  | [.agg [.isl .str a, .isl .str b, .isl .late l, .val (.int .i64 x), .isl .cset cs, .isl .ent es, .isl .ptr ps, .val (.bool y), .isl .int zs, .val (.int .i64 u), .val (.bool o)], .agg [.isl .str a', .isl .str b', .isl .late l', .val (.int .i64 x'), .isl .cset cs', .isl .ent es', .isl .ptr ps', .val (.bool y'), .isl .int zs', .val (.int .i64 u'), .val (.bool o')]], [] =>
    ifp (((a = a' ∧ b = b' ∧ l = l') ∧ (x = x' ∧ cs = cs' ∧ es = es' ∧ ps = ps' ∧ y = y' ∧ zs = zs' ∧ u = u') ∧ o = o') ∧ (Pl.mk ⟨a, b, l⟩ ⟨x, cs, es, ps, y, zs, u⟩ o).small) (vb true)
  | _, _ => no⟩
theorem s_eqPool_e : EnterOk Tryz.prog 11 := ⟨_, Tryz.func11, rfl, by decide⟩
@[go_sem] def s_eqPool_lv : List (List Nat) := [[2, 3], [2, 3, 10], [4], [2, 3, 16], [4], [21], [4], [4]]
@[go_sem] noncomputable def s_eqPool_K : Known := ((Known.nil).cons 19 ctEqDisk s_eqDisk s_eqDisk_e).cons 18 ctEqCore s_eqCore s_eqCore_e
set_option maxHeartbeats 8000000 in
theorem s_eqPool : Sound Tryz.prog 11 ctEqPool := by
 have ke := s_eqPool_K.env []
 have kl : Lives s_eqPool_lv := trivial
 refine sound_intro (E := ⟨ti, s_eqPool_K.Γ, []⟩) ke Tryz.func11 Tryz.ntmps11 rfl (rs := [.tmp 4]) rfl ?_
 intro args os hp
 unfold ctEqPool at hp ⊢
 dsimp only at hp ⊢
 split at hp
 ·rename_i a b l x cs es ps y zs u o a' b' l' x' cs' es' ps' y' zs' u' o'
  refine ⟨by simp, fun φ0 w0 => ?_⟩
  obtain ⟨⟨⟨rfl, rfl, rfl⟩, ⟨rfl, rfl, rfl, rfl, rfl, rfl, rfl⟩, rfl⟩, ⟨g1, g2, g3⟩, ⟨h1, h2, h3, h4⟩⟩ : ((a = a' ∧ b = b' ∧ l = l') ∧ (x = x' ∧ cs = cs' ∧ es = es' ∧ ps = ps' ∧ y = y' ∧ zs = zs' ∧ u = u') ∧ o = o') ∧ (Pl.mk ⟨a, b, l⟩ ⟨x, cs, es, ps, y, zs, u⟩ o).small := hp
  simp only at g1 g2 g3 h1 h2 h3 h4
  refine goh trivial ?_
  refine W_cnd ?_ ?_ <;> intro hlit <;> try (cases hlit; done)
  refine goh trivial ?_
  refine W_cnd ?_ ?_ <;> intro hlit <;> try (cases hlit; done)
  refine goh trivial ?_
  refine W_cnd ?_ ?_ <;> intro hlit <;> try (cases hlit; done)
  refine goh trivial ?_
  exact finh [] trivial
 ·simp [no, ifp] at hp
end Go.Proofs.YtfmjgoeclilcnaaGreatDoor
