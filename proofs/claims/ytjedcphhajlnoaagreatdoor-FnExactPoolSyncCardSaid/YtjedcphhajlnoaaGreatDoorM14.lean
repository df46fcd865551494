import Derived.Test.YtjedcphhajlnoaaGreatDoorM7
import Derived.Test.YtjedcphhajlnoaaGreatDoorM8
import Derived.Test.YtjedcphhajlnoaaGreatDoorM10
import Derived.Test.YtjedcphhajlnoaaGreatDoorM13
set_option linter.unusedSimpArgs false
set_option linter.unusedVariables false
set_option linter.unusedSectionVars false
/- Functions: valid cores, valid stores. -/
namespace Go.Proofs.YtjedcphhajlnoaaGreatDoor
open Go.RowKit

theorem counts_eq {cs : List CSet} {es : List Ent} (h : DdtP es) (hs : cs.any csetBad = false) : countB (refsP cs) es = (countsS (refsP cs) es && sumsS (refsP cs) es) := by
  have hlow := refs_ok hs
  have hrc : ∀ k, k < es.length → rcnt (refsP cs) (es.getD k ET.ent.dflt).at_ = cntAt (refsP cs) (es.getD k ET.ent.dflt).at_ := fun k hk => by
    have := h.asc.lo k hk
    unfold rcnt
    rw [if_pos (by omega)]
  have hsum : (∀ p ∈ refsP cs, 0 < p.at_ → thereE es p.at_ = true) → (∀ k, k < es.length → (es.getD k ET.ent.dflt).count = cntAt (refsP cs) (es.getD k ET.ent.dflt).at_) → sumC es = posN (refsP cs) := fun h1 h2 => by
    have h3 := cnt_sum h.asc (refsP cs) h1
    rw [← h3]
    have : ∀ l : List Ent, (∀ e ∈ l, e.count = cntAt (refsP cs) e.at_) → sumC l = ((l.map fun e => cntAt (refsP cs) e.at_).sum : Nat) := fun l => by
      induction l with
      | nil => intro _; rfl
      | cons a l ih =>
        intro hl
        have h4 : sumC (a :: l) = a.count + sumC l := by unfold sumC; rw [List.map_cons, List.sum_cons]
        rw [h4, ih fun e he => hl e (List.mem_cons_of_mem _ he), hl a (by simp), List.map_cons, List.sum_cons]
        omega
    refine this es fun e he => ?_
    obtain ⟨k, hk, rfl⟩ := List.getElem_of_mem he
    have h5 := h2 k hk
    rwa [show es.getD k ET.ent.dflt = es[k] by simp [hk]] at h5
  rw [Bool.eq_iff_iff, Bool.and_eq_true, countB_true, countsS_true, sumsS_true]
  constructor
  · rintro ⟨⟨h1⟩, h2⟩
    refine ⟨⟨fun k hk => by rw [hrc k hk, h2 k hk], hsum (fun p hp h0 => (h1 p hp (by omega)).1) h2⟩, fun p hp h0 => h1 p hp (by omega)⟩
  · rintro ⟨⟨h1, -⟩, h2⟩
    refine ⟨⟨fun p hp h0 => h2 p hp ?_⟩, fun k hk => by rw [← h1 k hk, hrc k hk]⟩
    have := ptr_low (hlow p hp)
    omega
theorem Co.ok_eq {c : Co} (h1 : 0 ≤ c.txg ∧ c.txg ≤ 1000000) (h2 : ddtB c.ddt = true) (h3 : c.parts.length ≤ 8) (h4 : c.parts.any partBad = false) (h5 : 0 ≤ c.logn ∧ c.logn ≤ 8) (h6 : safeB c.safe = true) : c.ok = (!c.sets.any csetBad && (bookB (frameOf c.sets) && countB (refsP c.sets) c.ddt)) := by
  rw [Bool.eq_iff_iff, Co.ok_true]
  simp only [Bool.and_eq_true, Bool.not_eq_true', countB_true]
  exact ⟨fun h => ⟨h.sets, h.book, h.counts⟩, fun h => ⟨h1, ddtB_true.1 h2, ⟨h3, h4⟩, h5, safeB_true.1 h6, h.1, h.2.1, h.2.2⟩⟩
@[go_sem] noncomputable def ctBadCset : Ct := ⟨false, [], fun args os => match args, os with
  | [.agg cs], [] => (match csetOf cs with | some s => ifp s.small (vb (csetBad s)) | none => no)
  | _, _ => no⟩
theorem s_coreOk2_e : EnterOk Tryz.prog 222 := ⟨_, Tryz.func222, rfl, by decide⟩
@[go_sem] def s_coreOk2_lv : List (List Nat) := [[1], [2]]
@[go_sem] noncomputable def s_coreOk2_K : Known := (Known.nil).cons 223 ctSetOk s_setOk s_setOk_e
set_option maxHeartbeats 8000000 in
theorem s_coreOk2 : Sound Tryz.prog 222 ctBadCset := by
  have ke := s_coreOk2_K.env []
  have kl : Lives s_coreOk2_lv := trivial
  refine sound_intro (E := ⟨ti, s_coreOk2_K.Γ, []⟩) ke Tryz.func222 Tryz.ntmps222 rfl (rs := [.tmp 2]) rfl ?_
  intro args os hp
  unfold ctBadCset at hp ⊢
  dsimp only at hp ⊢
  split at hp
  · rename_i cs
    split at hp
    · rename_i s hs
      obtain rfl := csetOf_some hs
      have h1 : s.small := hp
      clear hs
      refine ⟨by simp, fun φ0 w0 => ?_⟩
      refine goh trivial ?_
      refine ⟨by (simp only [go_sem, csetBad, ↓reduceIte, reduceCtorEq, Nat.reduceAdd, Nat.reduceLT, Nat.reduceLeDiff, Nat.reduceEqDiff]) <;> trivial, [], ?_⟩
      all_goals try simp only [go_sem, csetBad, inj_r, ↓reduceIte, reduceCtorEq, Nat.reduceAdd, Nat.reduceLT, Nat.reduceLeDiff, Nat.reduceEqDiff, Int.reduceEq]
      all_goals (repeat' refine And.intro ?_ ?_) <;> try exact shut7
    · simp [no] at hp
  · simp [no] at hp
@[go_sem] noncomputable def ctIxCset : Ct := ⟨false, [[some .cset]], fun args os => match args, os with
  | [.one (.isl .cset xs), .one (.fn 222 [])], [] => ifp (xs.length ≤ 4000000 ∧ ∀ i : Nat, (xs.getD i ET.cset.dflt).small) (vi (firstAt csetBad xs))
  | _, _ => no⟩
theorem s_ixCset_e : EnterOk Tryz.prog 77 := ⟨_, Tryz.func77, rfl, by decide⟩
@[go_sem] def s_ixCset_lv : List (List Nat) := [[0, 1], [0, 1, 7, 8], [0, 1, 7, 8, 9], [0, 1, 5, 7, 8], [0, 1, 5, 7, 8, 16], [4], [0, 1, 7, 8], [4]]
@[go_sem] noncomputable def s_ixCset_K : Known := (Known.nil).cons 222 ctBadCset s_coreOk2 s_coreOk2_e
set_option maxHeartbeats 8000000 in
theorem s_ixCset : Sound Tryz.prog 77 ctIxCset := by
  have ke := s_ixCset_K.env []
  have kl : Lives s_ixCset_lv := trivial
  refine sound_intro (E := ⟨ti, s_ixCset_K.Γ, []⟩) ke Tryz.func77 Tryz.ntmps77 rfl (rs := [.tmp 4]) rfl ?_
  intro args os hp
  unfold ctIxCset at hp ⊢
  dsimp only at hp ⊢
  split at hp
  · rename_i xs
    refine ⟨by simp, fun φ0 w0 => ?_⟩
    obtain ⟨hlen, hsm⟩ : xs.length ≤ 4000000 ∧ ∀ i : Nat, (xs.getD i ET.cset.dflt).small := hp
    refine goh trivial ?_
    refine W_for xs.length (fun i => ∀ j, j < i → csetBad (xs.getD j ET.cset.dflt) = false) (fun i => ⟨[(8, vi i), (7, vi xs.length), (0, .one (.isl .cset xs)), (1, .one (.fn 222 []))], [], []⟩) [] (leh trivial) (by omega) fun i hi hb => ?_
    refine goh trivial ?_
    refine W_cnd ?_ ?_ <;> (try simp only [cnd_r]) <;> intro hlt
    · have hs := hsm i
      refine goh trivial ?_
      refine W_cnd ?_ ?_ <;> (try simp only [cnd_r]) <;> intro hl
      · have e : firstAt csetBad xs = i := firstAt_some (d := ET.cset.dflt) (by omega) hb hl
        refine goh trivial ?_
        exact finh [] e
      · refine goh trivial ?_
        exact ⟨[], by omega, leh trivial, fun j hj => by
          rcases Nat.lt_succ_iff_lt_or_eq.1 hj with h | rfl
          · exact hb j h
          · exact hl⟩
    · have e : firstAt csetBad xs = -1 := firstAt_none (d := ET.cset.dflt) fun j hj => hb j (by omega)
      refine goh trivial ?_
      exact finh [] e
  · simp [no, ifp] at hp
@[go_sem] noncomputable def ctHasCset : Ct := ⟨false, [[some .cset]], fun args os => match args, os with
  | [.one (.isl .cset xs), .one (.fn 222 [])], [] => ifp (xs.length ≤ 4000000 ∧ ∀ i : Nat, (xs.getD i ET.cset.dflt).small) (vb (xs.any csetBad))
  | _, _ => no⟩
theorem s_hasCset_e : EnterOk Tryz.prog 221 := ⟨_, Tryz.func221, rfl, by decide⟩
@[go_sem] def s_hasCset_lv : List (List Nat) := [[0, 1], [4]]
@[go_sem] noncomputable def s_hasCset_K : Known := (Known.nil).cons 77 ctIxCset s_ixCset s_ixCset_e
set_option maxHeartbeats 8000000 in
theorem s_hasCset : Sound Tryz.prog 221 ctHasCset := by
  have ke := s_hasCset_K.env []
  have kl : Lives s_hasCset_lv := trivial
  refine sound_intro (E := ⟨ti, s_hasCset_K.Γ, []⟩) ke Tryz.func221 Tryz.ntmps221 rfl (rs := [.tmp 4]) rfl ?_
  intro args os hp
  unfold ctHasCset at hp ⊢
  dsimp only at hp ⊢
  split at hp
  · rename_i xs
    refine ⟨by simp, fun φ0 w0 => ?_⟩
    obtain ⟨hlen, hsm⟩ : xs.length ≤ 4000000 ∧ ∀ i : Nat, (xs.getD i ET.cset.dflt).small := hp
    refine goh trivial ?_
    refine ⟨by (simp only [go_sem, ↓reduceIte, reduceCtorEq, Nat.reduceAdd, Nat.reduceLT, Nat.reduceLeDiff, Nat.reduceEqDiff]) <;> trivial, [], ?_⟩
    all_goals try simp only [go_sem, inj_r, ↓reduceIte, reduceCtorEq, Nat.reduceAdd, Nat.reduceLT, Nat.reduceLeDiff, Nat.reduceEqDiff, Int.reduceEq]
    all_goals (repeat' refine And.intro ?_ ?_) <;> try exact shut7
    exact firstAt_ge _ _
  · simp [no, ifp] at hp
theorem safe_no {zs : List Int} {i : Nat} (hi : i < zs.length) (h : (¬ 13 ≤ zs.getD i ET.int.dflt ∨ ¬ zs.getD i ET.int.dflt ≤ 119) ∨ (i : Int) > 0 ∧ zs.getD (i - 1) ET.int.dflt ≥ zs.getD i ET.int.dflt) : safeB zs = false := safeB_false.2 fun hs => by
  obtain ⟨⟨h1, h2⟩, h3⟩ := hs i hi
  rcases h with (h | h) | ⟨h4, h5⟩
  · exact h h1
  · exact h h2
  · exact absurd (h3 (by omega)) (Int.not_lt.2 h5)
theorem safe_yes {zs : List Int} {i : Nat} (hb : ∀ j, j < i → Safe zs j) (h : (13 ≤ zs.getD i ET.int.dflt ∧ zs.getD i ET.int.dflt ≤ 119) ∧ (¬ (i : Int) > 0 ∨ ¬ zs.getD (i - 1) ET.int.dflt ≥ zs.getD i ET.int.dflt)) : ∀ j, j < i + 1 → Safe zs j := fun j hj => by
  rcases Nat.lt_succ_iff_lt_or_eq.1 hj with h2 | rfl
  · exact hb j h2
  · exact ⟨h.1, fun h0 => h.2.elim (fun h2 => absurd (show (j : Int) > 0 by omega) h2) fun h2 => Int.not_le.1 h2⟩
structure Co.fit (c : Co) : Prop where
  small : c.small
  sets : ∀ i : Nat, (c.sets.getD i ET.cset.dflt).small
@[go_sem] noncomputable def ctCoreOk : Ct := ⟨false, [[none, some .cset, some .ent, some .ptr, none, some .int, none]], fun args os => match args, os with
  | [.agg [.val (.int .i64 txg), .isl .cset cs, .isl .ent es, .isl .ptr ps, .val (.bool dirty), .isl .int zs, .val (.int .i64 logn)]], [] => ifp (Co.mk txg cs es ps dirty zs logn).fit (vb (Co.mk txg cs es ps dirty zs logn).ok)
  | _, _ => no⟩
theorem frame_small {cs : List CSet} (h : ∀ i : Nat, (cs.getD i ET.cset.dflt).small) (i : Nat) : ((frameOf cs).getD i ET.bset.dflt).name.size ≤ 9223372036854775807 := by
  rw [frame_at]; exact (h i).1
/-- A valid store. -/
noncomputable def poolB (p : Pl) : Bool := p.disk.ok && (decide (13 < p.disk.a.length) && p.core.ok)
theorem s_coreOk_e : EnterOk Tryz.prog 157 := ⟨_, Tryz.func157, rfl, by decide⟩
@[go_sem] def s_coreOk_lv : List (List Nat) := [[1], [1, 31], [2], [1, 33, 34, 35], [1, 33, 34, 35, 36], [1, 3, 4, 33, 34, 35], [1, 33, 34, 35, 56], [2], [1, 33, 34, 35], [2]]
@[go_sem] noncomputable def s_coreOk_K : Known := (((((((((Known.nil).cons 89 ctWithin s_within s_within_e).cons 218 ctDdtOk s_ddtOk s_ddtOk_e).cons 219 ctHasPart s_hasPart s_hasPart_e).cons 220 ctPartBad s_coreOk1 s_coreOk1_e).cons 221 ctHasCset s_hasCset s_hasCset_e).cons 222 ctBadCset s_coreOk2 s_coreOk2_e).cons 225 ctFrame s_frame s_frame_e).cons 224 ctBookOk s_bookOk s_bookOk_e).cons 226 ctCountsOk s_countsOk s_countsOk_e
set_option maxHeartbeats 8000000 in
theorem s_coreOk : Sound Tryz.prog 157 ctCoreOk := by
  have ke := s_coreOk_K.env []
  have kl : Lives s_coreOk_lv := trivial
  refine sound_intro (E := ⟨ti, s_coreOk_K.Γ, []⟩) ke Tryz.func157 Tryz.ntmps157 rfl (rs := [.tmp 2]) rfl ?_
  intro args os hp
  unfold ctCoreOk at hp ⊢
  dsimp only at hp ⊢
  split at hp
  · rename_i txg cs es ps dirty zs logn
    refine ⟨by simp, fun φ0 w0 => ?_⟩
    obtain ⟨⟨h1, h2, h3, h4⟩, hsm⟩ : (Co.mk txg cs es ps dirty zs logn).fit := hp
    simp only at h1 h2 h3 h4 hsm
    have hfs := frame_small hsm
    have hfl := frame_len cs
    refine goh trivial ?_
    refine W_cnd ?_ ?_ <;> (try simp only [cnd_r]) <;> intro hc
    · have e : (Co.mk txg cs es ps dirty zs logn).ok = false := Co.ok_false.2 fun h => by
        have h1 := h.txg
        have h2 := ddtB_true.2 h.ddt
        have h3 := h.parts
        have h4 := h.logn
        simp only at h1 h2 h3 h4
        rcases hc with (((hc | hc) | hc) | hc) | hc
        · omega
        · rw [h2] at hc; cases hc
        · omega
        · rw [h3.2] at hc; cases hc
        · omega
      refine goh trivial ?_
      exact finh [] e
    · obtain ⟨⟨⟨⟨k1, k2⟩, k3⟩, k4⟩, k5⟩ := hc
      have k2 : ddtB es = true := by simpa using k2
      have k4 : ps.any partBad = false := by simpa using k4
      have hD := ddtB_true.1 k2
      have hasc := hD.asc
      have hes := hD.few
      refine goh trivial ?_
      refine W_for zs.length (fun i => ∀ j, j < i → Safe zs j) (fun i => ⟨[(1, .one (.ptr 0 0)), (33, .one (.isl .int zs)), (34, vi zs.length), (35, vi i)], [some (obCo txg cs es ps dirty zs logn)], []⟩) [some 0] (leh trivial) (by omega) fun i hi hb => ?_
      refine goh trivial ?_
      refine W_cnd ?_ ?_ <;> (try simp only [cnd_r]) <;> intro hlt
      · have w1 : IntKind.i64.wrap ((i : Int) - 1) = (i : Int) - 1 := wrap_id _ (by omega) (by omega)
        have ht : ((i : Int) - 1).toNat = i - 1 := by omega
        refine goh (And.intro w1 ht) ?_
        refine W_cnd ?_ ?_ <;> (try simp only [cnd_r]) <;> intro hx
        · have e : (Co.mk txg cs es ps dirty zs logn).ok = false := Co.ok_false.2 fun h => by
            have := safeB_true.2 h.safe
            rw [safe_no (by omega) hx] at this; cases this
          refine goh trivial ?_
          exact finh [] e
        · refine goh trivial ?_
          exact ⟨[some 0], by omega, leh trivial, safe_yes hb hx⟩
      · have hS : safeB zs = true := safeB_true.2 fun j hj => hb j (by omega)
        have e := Co.ok_eq (c := ⟨txg, cs, es, ps, dirty, zs, logn⟩) k1 k2 (by simp only; omega) k4 k5 hS
        simp only at e
        cases hA : cs.any csetBad with
        | true =>
          refine goh hA ?_
          rw [hA] at e
          exact finh [] e
        | false =>
          have hat : ∀ p ∈ refsP cs, -1000000 ≤ p.at_ ∧ p.at_ ≤ 1000000 := fun p hp => by
            have := ptr_low (refs_ok hA p hp)
            omega
          rw [hA] at e
          refine goh hA ?_
          refine ⟨by (simp only [go_sem, e, ↓reduceIte, reduceCtorEq, Nat.reduceAdd, Nat.reduceLT, Nat.reduceLeDiff, Nat.reduceEqDiff]) <;> trivial, [], ?_⟩
          all_goals try simp only [go_sem, e, inj_r, ↓reduceIte, reduceCtorEq, Nat.reduceAdd, Nat.reduceLT, Nat.reduceLeDiff, Nat.reduceEqDiff, Int.reduceEq]
          all_goals (repeat' refine And.intro ?_ ?_) <;> try exact shut7
          cases bookB (frameOf cs) <;> rfl
  · simp [no, ifp] at hp
theorem s_specCoreOk_e : EnterOk Tryz.prog 69 := ⟨_, Tryz.func69, rfl, by decide⟩
@[go_sem] def s_specCoreOk_lv : List (List Nat) := [[1], [1, 40], [2], [1, 3], [1, 3, 45], [1, 3], [1, 3, 54], [2], [1, 4], [1, 4, 59], [1, 4], [1, 4, 77], [2], [2]]
@[go_sem] noncomputable def s_specCoreOk_K : Known := ((((((((Known.nil).cons 148 ctDdtOk s_specDdtOk s_specDdtOk_e).cons 149 ctPlaces s_l6Places s_l6Places_e).cons 150 ctSetOk s_l6Set s_l6Set_e).cons 25 ctPtrOk s_specPtrOk s_specPtrOk_e).cons 74 ctFrame s_l6Names s_l6Names_e).cons 151 ctBookOk s_specBookOk s_specBookOk_e).cons 152 ctCountsS s_l6Counts s_l6Counts_e).cons 153 ctSumsS s_l6Sums s_l6Sums_e
set_option maxHeartbeats 8000000 in
theorem s_specCoreOk : Sound Tryz.prog 69 ctCoreOk := by
  have ke := s_specCoreOk_K.env []
  have kl : Lives s_specCoreOk_lv := trivial
  refine sound_intro (E := ⟨ti, s_specCoreOk_K.Γ, []⟩) ke Tryz.func69 Tryz.ntmps69 rfl (rs := [.tmp 2]) rfl ?_
  intro args os hp
  unfold ctCoreOk at hp ⊢
  dsimp only at hp ⊢
  split at hp
  · rename_i txg cs es ps dirty zs logn
    refine ⟨by simp, fun φ0 w0 => ?_⟩
    obtain ⟨⟨h1, h2, h3, h4⟩, hsm⟩ : (Co.mk txg cs es ps dirty zs logn).fit := hp
    simp only at h1 h2 h3 h4 hsm
    have hfs := frame_small hsm
    have hfl := frame_len cs
    refine goh trivial ?_
    refine W_cnd ?_ ?_ <;> (try simp only [cnd_r]) <;> intro hc
    · have e : (Co.mk txg cs es ps dirty zs logn).ok = false := Co.ok_false.2 fun h => by
        have h1 := h.txg
        have h2 := ddtB_true.2 h.ddt
        have h3 := h.parts
        have h4 := h.logn
        have h5 := safeB_true.2 h.safe
        simp only at h1 h2 h3 h4 h5
        rcases hc with (((((hc | hc) | hc) | hc) | hc) | hc) | hc
        · omega
        · omega
        · rw [h2] at hc; cases hc
        · omega
        · rw [h5] at hc; cases hc
        · omega
        · omega
      refine goh trivial ?_
      exact finh [] e
    · obtain ⟨⟨⟨⟨⟨⟨k1, k1b⟩, k2⟩, k3⟩, hS⟩, k5⟩, k5b⟩ := hc
      have k2 : ddtB es = true := by simpa using k2
      have hS : safeB zs = true := by simpa using hS
      have hD := ddtB_true.1 k2
      have hasc := hD.asc
      have hes := hD.few
      refine goh trivial ?_
      refine W_for cs.length (fun i => ∀ j, j < i → csetB (cs.getD j ET.cset.dflt) = true) (fun i => ⟨[(1, .one (.ptr 0 0)), (3, vi i)], [some (obCo txg cs es ps dirty zs logn)], []⟩) [some 0] (leh trivial) (by omega) fun i hi hb => ?_
      refine goh trivial ?_
      refine W_cnd ?_ ?_ <;> (try simp only [cnd_r]) <;> intro hlt
      · have hs := hsm i
        refine goh trivial ?_
        refine W_cnd ?_ ?_ <;> (try simp only [cnd_r]) <;> intro hx
        · have e : (Co.mk txg cs es ps dirty zs logn).ok = false := Co.ok_false.2 fun h => by
            have h1 := h.sets
            rw [List.any_eq_false] at h1
            have h2 := h1 (cs.getD i ET.cset.dflt) (by simp [show i < cs.length by omega])
            unfold csetBad at h2
            rw [hx] at h2
            simp at h2
          refine goh trivial ?_
          exact finh [] e
        · refine goh trivial ?_
          exact ⟨[some 0], by omega, leh trivial, fun j hj => by
            rcases Nat.lt_succ_iff_lt_or_eq.1 hj with h | rfl
            · exact hb j h
            · exact hx⟩
      · have hA : cs.any csetBad = false := by
          rw [List.any_eq_false]
          intro s hs
          obtain ⟨j, hj, rfl⟩ := List.getElem_of_mem hs
          have h1 := hb j (by omega)
          rw [show cs.getD j ET.cset.dflt = cs[j] by simp [hj]] at h1
          unfold csetBad
          rw [h1]; decide
        clear hb hlt hi
        refine goh trivial ?_
        refine W_for ps.length (fun i => ∀ j, j < i → partBad (ps.getD j ET.ptr.dflt) = false) (fun i => ⟨[(1, .one (.ptr 0 0)), (4, vi i)], [some (obCo txg cs es ps dirty zs logn)], []⟩) [some 0] (leh trivial) (by omega) fun i hi hb => ?_
        refine goh trivial ?_
        refine W_cnd ?_ ?_ <;> (try simp only [cnd_r]) <;> intro hlt
        · refine goh trivial ?_
          refine W_cnd ?_ ?_ <;> (try simp only [cnd_r]) <;> intro hx
          · have e : (Co.mk txg cs es ps dirty zs logn).ok = false := Co.ok_false.2 fun h => by
              have h1 := h.parts.2
              rw [List.any_eq_false] at h1
              have h2 := h1 (ps.getD i ET.ptr.dflt) (by simp [show i < ps.length by omega])
              unfold partBad realB at h2
              rcases hx with hx | hx
              · rw [hx] at h2; simp at h2
              · rw [hx] at h2; simp at h2
            refine goh trivial ?_
            exact finh [] e
          · refine goh trivial ?_
            exact ⟨[some 0], by omega, leh trivial, fun j hj => by
              rcases Nat.lt_succ_iff_lt_or_eq.1 hj with h | rfl
              · exact hb j h
              · have x1 : ptrOkB (ps.getD j ET.ptr.dflt) = true := (Bool.not_eq_false _).mp hx.1
                have x2 := hx.2
                unfold partBad realB
                rw [x1, x2]; rfl⟩
        · have k4 : ps.any partBad = false := by
            rw [List.any_eq_false]
            intro s hs
            obtain ⟨j, hj, rfl⟩ := List.getElem_of_mem hs
            have h1 := hb j (by omega)
            rw [show ps.getD j ET.ptr.dflt = ps[j] by simp [hj]] at h1
            rw [h1]; decide
          have e := Co.ok_eq (c := ⟨txg, cs, es, ps, dirty, zs, logn⟩) (by simp only; omega) k2 (by simp only; omega) k4 (by simp only; omega) hS
          simp only at e
          rw [hA, counts_eq hD hA] at e
          refine goh trivial ?_
          refine ⟨by (simp only [go_sem, e, ↓reduceIte, reduceCtorEq, Nat.reduceAdd, Nat.reduceLT, Nat.reduceLeDiff, Nat.reduceEqDiff]) <;> trivial, [], ?_⟩
          all_goals try simp only [go_sem, e, inj_r, ↓reduceIte, reduceCtorEq, Nat.reduceAdd, Nat.reduceLT, Nat.reduceLeDiff, Nat.reduceEqDiff, Int.reduceEq]
          all_goals (repeat' refine And.intro ?_ ?_) <;> try exact shut7
          cases bookB (frameOf cs) <;> cases countsS (refsP cs) es <;> rfl
  · simp [no, ifp] at hp
theorem pool_ok1 (x y : Bool) (n : Nat) : (if (if x = true then y else false) = true then decide ((n : Int) > 13) else false) = (x && (decide (13 < n) && y)) := by
  rw [show decide ((n : Int) > 13) = decide (13 < n) from decide_eq_decide.2 (by omega)]
  cases x <;> cases y <;> simp
theorem pool_ok2 (x y : Bool) (n : Nat) : (if (if x = true then decide ((n : Int) > 13) else false) = true then y else false) = (x && (decide (13 < n) && y)) := by
  rw [show decide ((n : Int) > 13) = decide (13 < n) from decide_eq_decide.2 (by omega)]
  cases x <;> cases y <;> simp
@[go_sem] noncomputable def ctCommitOk : Ct := ⟨false, [[some .str, some .str, some .late], [none, some .cset, some .ent, some .ptr, none, some .int, none]], fun args os => match args, os with
  | [.agg [.isl .str a, .isl .str b, .isl .late l], .agg [.val (.int .i64 txg), .isl .cset cs, .isl .ent es, .isl .ptr ps, .val (.bool dirty), .isl .int zs, .val (.int .i64 logn)]], [] => ifp ((Dk.mk a b l).small ∧ (Co.mk txg cs es ps dirty zs logn).fit) (vb (poolB ⟨⟨a, b, l⟩, ⟨txg, cs, es, ps, dirty, zs, logn⟩, true⟩))
  | _, _ => no⟩
theorem s_commitOk_e : EnterOk Tryz.prog 71 := ⟨_, Tryz.func71, rfl, by decide⟩
@[go_sem] def s_commitOk_lv : List (List Nat) := [[2, 3], [4]]
@[go_sem] noncomputable def s_commitOk_K : Known := ((Known.nil).cons 80 ctDiskOk s_diskOk s_diskOk_e).cons 157 ctCoreOk s_coreOk s_coreOk_e
set_option maxHeartbeats 8000000 in
theorem s_commitOk : Sound Tryz.prog 71 ctCommitOk := by
  have ke := s_commitOk_K.env []
  have kl : Lives s_commitOk_lv := trivial
  refine sound_intro (E := ⟨ti, s_commitOk_K.Γ, []⟩) ke Tryz.func71 Tryz.ntmps71 rfl (rs := [.tmp 4]) rfl ?_
  intro args os hp
  unfold ctCommitOk at hp ⊢
  dsimp only at hp ⊢
  split at hp
  · rename_i a b l txg cs es ps dirty zs logn
    refine ⟨by simp, fun φ0 w0 => ?_⟩
    obtain ⟨⟨h1, h2, h3⟩, hf⟩ : (Dk.mk a b l).small ∧ (Co.mk txg cs es ps dirty zs logn).fit := hp
    refine goh trivial ?_
    refine ⟨by (simp only [go_sem, poolB, ↓reduceIte, reduceCtorEq, Nat.reduceAdd, Nat.reduceLT, Nat.reduceLeDiff, Nat.reduceEqDiff]) <;> trivial, [], ?_⟩
    all_goals try simp only [go_sem, poolB, inj_r, ↓reduceIte, reduceCtorEq, Nat.reduceAdd, Nat.reduceLT, Nat.reduceLeDiff, Nat.reduceEqDiff, Int.reduceEq]
    all_goals (repeat' refine And.intro ?_ ?_) <;> try exact shut7
    exact pool_ok1 _ _ _
  · simp [no, ifp] at hp
@[go_sem] noncomputable def ctPoolOk : Ct := ⟨false, [[some .str, some .str, some .late, none, some .cset, some .ent, some .ptr, none, some .int, none, none]], fun args os => match args, os with
  | [.agg [.isl .str a, .isl .str b, .isl .late l, .val (.int .i64 txg), .isl .cset cs, .isl .ent es, .isl .ptr ps, .val (.bool dirty), .isl .int zs, .val (.int .i64 logn), .val (.bool up)]], [] => ifp ((Dk.mk a b l).small ∧ (Co.mk txg cs es ps dirty zs logn).fit) (vb (poolB ⟨⟨a, b, l⟩, ⟨txg, cs, es, ps, dirty, zs, logn⟩, up⟩))
  | _, _ => no⟩
theorem s_poolOk_e : EnterOk Tryz.prog 16 := ⟨_, Tryz.func16, rfl, by decide⟩
@[go_sem] def s_poolOk_lv : List (List Nat) := [[1], [2]]
@[go_sem] noncomputable def s_poolOk_K : Known := (Known.nil).cons 71 ctCommitOk s_commitOk s_commitOk_e
set_option maxHeartbeats 8000000 in
theorem s_poolOk : Sound Tryz.prog 16 ctPoolOk := by
  have ke := s_poolOk_K.env []
  have kl : Lives s_poolOk_lv := trivial
  refine sound_intro (E := ⟨ti, s_poolOk_K.Γ, []⟩) ke Tryz.func16 Tryz.ntmps16 rfl (rs := [.tmp 2]) rfl ?_
  intro args os hp
  unfold ctPoolOk at hp ⊢
  dsimp only at hp ⊢
  split at hp
  · rename_i a b l txg cs es ps dirty zs logn up
    refine ⟨by simp, fun φ0 w0 => ?_⟩
    obtain ⟨⟨h1, h2, h3⟩, hf⟩ : (Dk.mk a b l).small ∧ (Co.mk txg cs es ps dirty zs logn).fit := hp
    have e : poolB ⟨⟨a, b, l⟩, ⟨txg, cs, es, ps, dirty, zs, logn⟩, true⟩ = poolB ⟨⟨a, b, l⟩, ⟨txg, cs, es, ps, dirty, zs, logn⟩, up⟩ := rfl
    refine goh trivial ?_
    exact finh [] e
  · simp [no, ifp] at hp
theorem s_specPoolOk_e : EnterOk Tryz.prog 14 := ⟨_, Tryz.func14, rfl, by decide⟩
@[go_sem] def s_specPoolOk_lv : List (List Nat) := [[1], [2]]
@[go_sem] noncomputable def s_specPoolOk_K : Known := ((Known.nil).cons 28 ctDiskOk s_specDiskOk s_specDiskOk_e).cons 69 ctCoreOk s_specCoreOk s_specCoreOk_e
set_option maxHeartbeats 8000000 in
theorem s_specPoolOk : Sound Tryz.prog 14 ctPoolOk := by
  have ke := s_specPoolOk_K.env []
  have kl : Lives s_specPoolOk_lv := trivial
  refine sound_intro (E := ⟨ti, s_specPoolOk_K.Γ, []⟩) ke Tryz.func14 Tryz.ntmps14 rfl (rs := [.tmp 2]) rfl ?_
  intro args os hp
  unfold ctPoolOk at hp ⊢
  dsimp only at hp ⊢
  split at hp
  · rename_i a b l txg cs es ps dirty zs logn up
    refine ⟨by simp, fun φ0 w0 => ?_⟩
    obtain ⟨⟨h1, h2, h3⟩, hf⟩ : (Dk.mk a b l).small ∧ (Co.mk txg cs es ps dirty zs logn).fit := hp
    refine goh trivial ?_
    refine ⟨by (simp only [go_sem, poolB, ↓reduceIte, reduceCtorEq, Nat.reduceAdd, Nat.reduceLT, Nat.reduceLeDiff, Nat.reduceEqDiff]) <;> trivial, [], ?_⟩
    all_goals try simp only [go_sem, poolB, inj_r, ↓reduceIte, reduceCtorEq, Nat.reduceAdd, Nat.reduceLT, Nat.reduceLeDiff, Nat.reduceEqDiff, Int.reduceEq]
    all_goals (repeat' refine And.intro ?_ ?_) <;> try exact shut7
    exact pool_ok2 _ _ _
  · simp [no, ifp] at hp
end Go.Proofs.YtjedcphhajlnoaaGreatDoor
/- Functions: falls, the program's. -/
namespace Go.Proofs.YtjedcphhajlnoaaGreatDoor
open Go.RowKit

theorem s_diskFlush_e : EnterOk Tryz.prog 36 := ⟨_, Tryz.func36, rfl, by decide⟩
@[go_sem] def s_diskFlush_lv : List (List Nat) := [[1, 2], [1, 2, 6], [2], [2, 3], [2, 3], [2]]
@[go_sem] noncomputable def s_diskFlush_K : Known := (((Known.nil).cons 80 ctDiskOk s_diskOk s_diskOk_e).cons 81 ctOwn s_own s_own_e).cons 105 ctFlush s_flush s_flush_e
set_option maxHeartbeats 8000000 in
theorem s_diskFlush : Sound Tryz.prog 36 ctDiskFlush := by
  have ke := s_diskFlush_K.env []
  have kl : Lives s_diskFlush_lv := trivial
  refine sound_intro (E := ⟨ti, s_diskFlush_K.Γ, []⟩) ke Tryz.func36 Tryz.ntmps36 rfl (rs := [.cell 2 39]) rfl ?_
  intro args os hp
  unfold ctDiskFlush at hp ⊢
  dsimp only at hp ⊢
  split at hp
  · rename_i a b l
    refine ⟨by simp, fun φ0 w0 => ?_⟩
    obtain ⟨h1, h2, h3⟩ : a.length ≤ 4000000 ∧ b.length ≤ 4000000 ∧ l.length ≤ 4000000 := hp
    refine goh trivial ?_
    refine W_cnd ?_ ?_ <;> (try simp only [cnd_r]) <;> intro hok
    · have e1 : dkFlush ⟨a, b, l⟩ = .nil := by unfold dkFlush; rw [hok]; rfl
      refine goh trivial ?_
      refine ⟨by (simp only [go_sem, e1, Dk.nil, ↓reduceIte, reduceCtorEq, Nat.reduceAdd, Nat.reduceLT, Nat.reduceLeDiff, Nat.reduceEqDiff]) <;> trivial, [none, none, none], ?_⟩
      all_goals try simp only [go_sem, e1, Dk.nil, inj_r, ↓reduceIte, reduceCtorEq, Nat.reduceAdd, Nat.reduceLT, Nat.reduceLeDiff, Nat.reduceEqDiff, Int.reduceEq]
      all_goals (repeat' refine And.intro ?_ ?_) <;> try exact shut7
    · have e1 : dkFlush ⟨a, b, l⟩ = (Dk.mk a b l).flushed := by unfold dkFlush; rw [hok]; rfl
      have e2 : (Dk.mk a b l).flushed.l = [] := rfl
      have e3 := (Dk.mk a b l).done_len l.length
      have e4 : (Dk.mk a b l).flushed.a.length = a.length := e3.1
      have e5 : (Dk.mk a b l).flushed.b.length = b.length := e3.2
      refine goh trivial ?_
      exact finh [some 2, some 3, none] (And.intro e1 (And.intro e2 (And.intro e4 e5)))
  · simp [no] at hp

theorem torn_min (old now : ByteArray) : torn old now = now.extract 0 (now.size / 2) ++ old.extract (min (now.size / 2) old.size) old.size := by
  unfold torn
  split
  · rename_i h; rw [Nat.min_eq_left (by omega)]
  · rename_i h
    rw [Nat.min_eq_right (by omega)]
    have h0 : (old.extract old.size old.size).size = 0 := by rw [ByteArray.size_extract]; omega
    have : old.extract old.size old.size = ByteArray.empty := ByteArray.ext (Array.eq_empty_of_size_eq_zero h0)
    rw [this, ByteArray.append_empty]
@[go_sem] def sgFa (a b : List ByteArray) (l : List Late) (fate : List Int) (x : Two) (i : Nat) : Sg := ⟨[(1, .one (.isl .int fate)), (4, .one (.ptr 1 0)), (5, .one (.ptr 5 0)), (18, .one (.isl .late l)), (19, vi l.length), (20, vi i)],
  [some (.cells [.isl .str a, .isl .str b, .isl .late l]), some (.cells [.val (.slice none 0 0), .val (.slice none 0 0), .val (.slice none 0 0)]), some (.arr .str x.1), some (.arr .str x.2), some (.arr .late l), some (.cells [.osl .str 2 0 x.1.length, .osl .str 3 0 x.2.length, .osl .late 4 0 l.length])], []⟩
theorem s_diskFall_e : EnterOk Tryz.prog 38 := ⟨_, Tryz.func38, rfl, by decide⟩
@[go_sem] def s_diskFall_lv : List (List Nat) := [[1, 2, 4], [1, 2, 4, 13], [4], [1, 2, 4, 5], [1, 4, 5, 18, 19, 20], [1, 4, 5, 18, 19, 20, 21], [1, 4, 5, 6, 7, 18, 19, 20], [1, 4, 5, 6, 7, 18, 19, 20, 28], [1, 4, 5, 6, 7, 8, 18, 19, 20], [1, 4, 5, 7, 8, 18, 19, 20, 40], [1, 4, 5, 7, 8, 18, 19, 20, 40, 41], [1, 4, 5, 18, 19, 20], [1, 4, 5, 7, 8, 18, 19, 20, 47], [1, 4, 5, 7, 8, 9, 18, 19, 20], [1, 4, 5, 7, 8, 9, 10, 18, 19, 20], [1, 4, 5, 18, 19, 20], [1, 4, 5, 18, 19, 20], [4, 5], [4]]
@[go_sem] noncomputable def s_diskFall_K : Known := ((Known.nil).cons 80 ctDiskOk s_diskOk s_diskOk_e).cons 81 ctOwn s_own s_own_e
set_option maxHeartbeats 8000000 in
theorem s_diskFall : Sound Tryz.prog 38 ctDiskFall := by
  have ke := s_diskFall_K.env []
  have kl : Lives s_diskFall_lv := trivial
  refine sound_intro (E := ⟨ti, s_diskFall_K.Γ, []⟩) ke Tryz.func38 Tryz.ntmps38 rfl (rs := [.cell 4 39]) rfl ?_
  intro args os hp
  unfold ctDiskFall at hp ⊢
  dsimp only at hp ⊢
  split at hp
  · rename_i a b l fate
    refine ⟨by simp, fun φ0 w0 => ?_⟩
    obtain ⟨⟨h1, h2, h3⟩, h4⟩ : (a.length ≤ 4000000 ∧ b.length ≤ 4000000 ∧ l.length ≤ 4000000) ∧ fate.length ≤ 4000000 := hp
    refine goh trivial ?_
    refine W_cnd ?_ ?_ <;> (try simp only [cnd_r]) <;> intro hok
    · have e1 : dkFall ⟨a, b, l⟩ fate = .nil := by unfold dkFall; rw [hok]; rfl
      refine goh trivial ?_
      refine ⟨by (simp only [go_sem, e1, Dk.nil, ↓reduceIte, reduceCtorEq, Nat.reduceAdd, Nat.reduceLT, Nat.reduceLeDiff, Nat.reduceEqDiff]) <;> trivial, [none, none, none], ?_⟩
      all_goals try simp only [go_sem, e1, Dk.nil, inj_r, ↓reduceIte, reduceCtorEq, Nat.reduceAdd, Nat.reduceLT, Nat.reduceLeDiff, Nat.reduceEqDiff, Int.reduceEq]
      all_goals (repeat' refine And.intro ?_ ?_) <;> try exact shut7
    · have e1 : dkFall ⟨a, b, l⟩ fate = (Dk.mk a b l).fallen fate := by unfold dkFall; rw [hok]; rfl
      refine goh trivial ?_
      refine W_le (σ' := sgFa a b l fate ((Dk.mk a b l).fallN fate 0) 0) [some 0, some 1, some 2, some 3, some 4, some 5] (by
        simp only [go_sem, Dk.fallN, inj_r, ↓reduceIte, reduceCtorEq, Nat.reduceAdd, Nat.reduceLT, Nat.reduceLeDiff, Nat.reduceEqDiff, Int.reduceEq]
        all_goals (repeat' refine And.intro ?_ ?_) <;> try exact shut7
        ) ?_
      refine W_loop (fun n σ => ∃ i : Nat, i ≤ min l.length fate.length ∧ n = l.length - i ∧ σ = sgFa a b l fate ((Dk.mk a b l).fallN fate i) i) l.length ⟨0, by omega, by omega, rfl⟩ ?_
      rintro n σ ⟨i, hi, rfl, rfl⟩
      obtain ⟨hl1, hl2⟩ := (Dk.mk a b l).fallN_len fate i
      simp only at hl1 hl2
      unfold sgFa
      refine goh trivial ?_
      refine W_cnd ?_ ?_ <;> (try simp only [cnd_r]) <;> intro hlt
      · have hi1 : i < l.length := by omega
        obtain ⟨ws, w1, w2, w3⟩ := Dk.ok_late hok i hi1
        have hsm := Dk.fallN_sm hok fate i (show i ≤ l.length by omega)
        have hd : (Dk.mk a b l).fallN fate (i + 1) = fell (fate.getD i ET.int.dflt) ((Dk.mk a b l).fallN fate i) (l.getD i ET.late.dflt) := rfl
        obtain ⟨-, -, hab, -⟩ := (Dk.ok_iff _).1 hok
        simp only at ws w1 w2 w3 hd hab
        generalize hw : l.getD i ET.late.dflt = w at *
        generalize hf : fate.getD i ET.int.dflt = f at *
        obtain ⟨s, k, t⟩ := w
        simp only at ws w1 w2 w3
        refine goh hw ?_
        refine W_cnd ?_ ?_ <;> (try simp only [cnd_r]) <;> intro hfa
        · have : i = min l.length fate.length := by omega
          subst this
          refine goh trivial ?_
          refine ⟨by (simp only [go_sem, e1, Dk.fallen, ↓reduceIte, reduceCtorEq, Nat.reduceAdd, Nat.reduceLT, Nat.reduceLeDiff, Nat.reduceEqDiff]) <;> trivial, [some 2, some 3, none], ?_⟩
          all_goals try simp only [go_sem, e1, Dk.fallen, inj_r, ↓reduceIte, reduceCtorEq, Nat.reduceAdd, Nat.reduceLT, Nat.reduceLeDiff, Nat.reduceEqDiff, Int.reduceEq]
          all_goals (repeat' refine And.intro ?_ ?_) <;> try exact shut7
        · generalize hx : (Dk.mk a b l).fallN fate i = x at *
          have hz := hsm.sec s k
          unfold sec at hz
          rcases ws with rfl | rfl
          all_goals
            simp only [↓reduceIte, Int.reduceEq, ET.at] at hz
            refine goh (And.intro hw hf) ?_
            refine W_cond _ (by exact rfl) (by exact trivial) ?_ ?_ <;> intro hc
            · have hf1 : f = 1 := by simpa using hc
              refine goh (And.intro hw hf) ?_
              refine ⟨l.length - (i + 1), [some 0, some 1, some 2, some 3, some 4, some 5], sgFa a b l fate ((Dk.mk a b l).fallN fate (i + 1)) (i + 1), by omega, ?_, i + 1, by omega, rfl, rfl⟩
              rw [hd]
              simp only [go_sem, fell, putW, List.length_set, hf1, inj_r, ↓reduceIte, reduceCtorEq, Nat.reduceAdd, Nat.reduceLT, Nat.reduceLeDiff, Nat.reduceEqDiff, Int.reduceEq]
              all_goals (repeat' refine And.intro ?_ ?_) <;> try exact shut7
            · have hf1 : ¬ f = 1 := by simpa using hc
              refine goh (And.intro hw hf) ?_
              refine W_cond _ (by exact rfl) (by exact trivial) ?_ ?_ <;> intro hc2
              · have hf2 : f = 2 := by simpa using hc2
                have hq : IntKind.i64.wrap ((t.size : Int).tdiv 2) = ((t.size / 2 : Nat) : Int) := by
                  have : (t.size : Int).tdiv 2 = ((t.size / 2 : Nat) : Int) := (Int.ofNat_tdiv _ _).symm
                  rw [this]; exact wrap_id _ (by omega) (by omega)
                have hmin : ∀ z : ByteArray, (if (z.size : Int) < ((t.size / 2 : Nat) : Int) then (z.size : Int) else ((t.size / 2 : Nat) : Int)) = ((min (t.size / 2) z.size : Nat) : Int) := fun z => by split <;> omega
                repeat' first
                  | with_reducible refine red ?_
                  | refine W_seq ?_
                  | (refine W_reg (s_diskFall_K.env []) s_diskFall_lv fun K' hK' => ?_
                     simp only [go_sem, hw, hf, hq, hmin, ↓reduceIte, ↓reduceDIte, reduceCtorEq, Nat.reduceAdd, Nat.reduceMul, Nat.reduceSub, Nat.reduceDiv, Nat.reduceMod, Nat.reduceLT, Nat.reduceLeDiff, Nat.reduceEqDiff, Nat.reduceBEq, Int.reduceToNat, Int.reduceLE, Int.reduceLT, Int.reduceEq, Int.reduceNe, Int.reduceNeg]
                     (repeat' refine And.intro ?_ ?_) <;> try first | with_reducible refine hK' ?_ | exact shut6)
                  | with_reducible refine blockG_o (by decide) ?_
                · simp only [ByteArray.size_extract]; omega
                · refine ⟨l.length - (i + 1), [some 0, some 1, some 2, some 3, some 4, some 5], sgFa a b l fate ((Dk.mk a b l).fallN fate (i + 1)) (i + 1), by omega, ?_, i + 1, by omega, rfl, rfl⟩
                  rw [hd]
                  simp only [go_sem, fell, hf1, hf2, putW, sec, torn_min, List.length_set, inj_r, ↓reduceIte, reduceCtorEq, Nat.reduceAdd, Nat.reduceLT, Nat.reduceLeDiff, Nat.reduceEqDiff, Int.reduceEq]
                  all_goals (repeat' refine And.intro ?_ ?_) <;> try exact shut7
              · have hf2 : ¬ f = 2 := by simpa using hc2
                refine goh (And.intro hw hf) ?_
                refine ⟨l.length - (i + 1), [some 0, some 1, some 2, some 3, some 4, some 5], sgFa a b l fate ((Dk.mk a b l).fallN fate (i + 1)) (i + 1), by omega, ?_, i + 1, by omega, rfl, rfl⟩
                rw [hd]
                simp only [go_sem, fell, hf1, hf2, inj_r, ↓reduceIte, reduceCtorEq, Nat.reduceAdd, Nat.reduceLT, Nat.reduceLeDiff, Nat.reduceEqDiff, Int.reduceEq]
                all_goals (repeat' refine And.intro ?_ ?_) <;> try exact shut7
      · have : i = min l.length fate.length := by omega
        subst this
        refine goh trivial ?_
        refine ⟨by (simp only [go_sem, e1, Dk.fallen, ↓reduceIte, reduceCtorEq, Nat.reduceAdd, Nat.reduceLT, Nat.reduceLeDiff, Nat.reduceEqDiff]) <;> trivial, [some 2, some 3, none], ?_⟩
        all_goals try simp only [go_sem, e1, Dk.fallen, inj_r, ↓reduceIte, reduceCtorEq, Nat.reduceAdd, Nat.reduceLT, Nat.reduceLeDiff, Nat.reduceEqDiff, Int.reduceEq]
        all_goals (repeat' refine And.intro ?_ ?_) <;> try exact shut7
  · simp [no] at hp
end Go.Proofs.YtjedcphhajlnoaaGreatDoor
/- Functions: decay, the program's. -/
namespace Go.Proofs.YtjedcphhajlnoaaGreatDoor
open Go.RowKit

theorem s_rot_e : EnterOk Tryz.prog 125 := ⟨_, Tryz.func125, rfl, by decide⟩
@[go_sem] def s_rot_lv : List (List Nat) := [[1, 2, 3, 4, 5, 10], [1, 2, 3, 4, 5, 10, 15], [10], [1, 2, 3, 4, 5, 10, 11], [1, 2, 3, 4, 5, 10, 11, 39], [1, 2, 3, 4, 10, 11, 12], [1, 2, 10, 11, 12], [10, 11], [10]]
@[go_sem] noncomputable def s_rot_K : Known := ((((Known.nil).cons 80 ctDiskOk s_diskOk s_diskOk_e).cons 81 ctOwn s_own s_own_e).cons 95 ctIsSector s_isSector s_isSector_e).cons 89 ctWithin s_within s_within_e
set_option maxHeartbeats 8000000 in
theorem s_rot : Sound Tryz.prog 125 ctDiskRot := by
  have ke := s_rot_K.env []
  have kl : Lives s_rot_lv := trivial
  refine sound_intro (E := ⟨ti, s_rot_K.Γ, []⟩) ke Tryz.func125 Tryz.ntmps125 rfl (rs := [.cell 10 39]) rfl ?_
  intro args os hp
  unfold ctDiskRot at hp ⊢
  dsimp only at hp ⊢
  split at hp
  · rename_i a b l s i k mask
    refine ⟨by simp, fun φ0 w0 => ?_⟩
    obtain ⟨h1, h2, h3⟩ : a.length ≤ 4000000 ∧ b.length ≤ 4000000 ∧ l.length ≤ 4000000 := hp
    refine goh trivial ?_
    refine W_cnd ?_ ?_ <;> (try simp only [cnd_r]) <;> intro hok
    · have e1 : dkRot ⟨a, b, l⟩ s i k mask = .nil := by unfold dkRot; rw [hok]; rfl
      refine goh trivial ?_
      refine ⟨by (simp only [go_sem, e1, Dk.nil, ↓reduceIte, reduceCtorEq, Nat.reduceAdd, Nat.reduceLT, Nat.reduceLeDiff, Nat.reduceEqDiff]) <;> trivial, [none, none, none], ?_⟩
      all_goals try simp only [go_sem, e1, Dk.nil, inj_r, ↓reduceIte, reduceCtorEq, Nat.reduceAdd, Nat.reduceLT, Nat.reduceLeDiff, Nat.reduceEqDiff, Int.reduceEq]
      all_goals (repeat' refine And.intro ?_ ?_) <;> try exact shut7
    · have e1 : dkRot ⟨a, b, l⟩ s i k mask = if (Dk.mk a b l).mayRot s i k mask then (Dk.mk a b l).rot s i k mask else ⟨a, b, l⟩ := by unfold dkRot; rw [hok]; rfl
      have hm : (Dk.mk a b l).mayRot s i k mask = (sector a.length s i && decide (0 ≤ k) && decide (k < (sec (a, b) s i).size) && decide (1 ≤ mask) && decide (mask ≤ 255)) := rfl
      obtain ⟨-, -, hab, -⟩ := (Dk.ok_iff _).1 hok
      simp only at hab
      have hsm := (Dk.ok_sm hok).sec s i
      rw [show (Dk.mk a b l).a = a from rfl, show (Dk.mk a b l).b = b from rfl] at hsm
      generalize (Dk.mk a b l).mayRot s i k mask = mr at e1 hm
      by_cases hs : sector a.length s i = true
      · obtain ⟨ws, w1, w2⟩ := (sector_iff _ _ _).1 hs
        rw [hs, Bool.true_and] at hm
        obtain ⟨tx, htx⟩ : ∃ tx, tx = sec (a, b) s i := ⟨_, rfl⟩
        rw [← htx] at hsm hm
        have hdl : tx.data.toList.length = tx.size := Array.length_toList
        have hwr : IntKind.i64.wrap ((tx.size : Int) - 1) = (tx.size : Int) - 1 := wrap_id _ (by omega) (by omega)
        rcases ws with rfl | rfl
        all_goals
          simp only [sec, ↓reduceIte, Int.reduceEq, ET.at] at htx
          repeat' first
            | with_reducible refine red ?_
            | refine W_seq ?_
            | (refine W_reg (s_rot_K.env []) s_rot_lv fun K' hK' => ?_
               simp only [go_sem, Dk.small, hs, ← htx, hwr, ↓reduceIte, ↓reduceDIte, reduceCtorEq, Nat.reduceAdd, Nat.reduceMul, Nat.reduceSub, Nat.reduceDiv, Nat.reduceMod, Nat.reduceLT, Nat.reduceLeDiff, Nat.reduceEqDiff, Nat.reduceBEq, Int.reduceToNat, Int.reduceLE, Int.reduceLT, Int.reduceEq, Int.reduceNe, Int.reduceNeg]
               (repeat' refine And.intro ?_ ?_) <;> try first | with_reducible refine hK' ?_ | exact shut6)
            | with_reducible refine blockG_o (by decide) ?_
          refine W_cnd ?_ ?_ <;> (try simp only [cnd_r]) <;> intro hc
          · have hm0 : mr = true := by
              rw [hm]
              simp only [Bool.and_eq_true, decide_eq_true_eq]
              omega
            repeat' first
              | with_reducible refine red ?_
              | refine W_seq ?_
              | (refine W_reg (s_rot_K.env []) s_rot_lv fun K' hK' => ?_
                 simp only [go_sem, ← htx, hdl, ↓reduceIte, ↓reduceDIte, reduceCtorEq, Nat.reduceAdd, Nat.reduceMul, Nat.reduceSub, Nat.reduceDiv, Nat.reduceMod, Nat.reduceLT, Nat.reduceLeDiff, Nat.reduceEqDiff, Nat.reduceBEq, Int.reduceToNat, Int.reduceLE, Int.reduceLT, Int.reduceEq, Int.reduceNe, Int.reduceNeg]
                 (repeat' refine And.intro ?_ ?_) <;> try first | with_reducible refine hK' ?_ | exact shut6)
              | with_reducible refine blockG_o (by decide) ?_
            refine ⟨by (simp only [go_sem, e1, hm0, Dk.rot, putW, sec, ← htx, rotB, turn, List.length_set, ↓reduceIte, reduceCtorEq, Nat.reduceAdd, Nat.reduceLT, Nat.reduceLeDiff, Nat.reduceEqDiff]) <;> trivial, [some 2, some 3, some 4], ?_⟩
            all_goals try simp only [go_sem, e1, hm0, Dk.rot, putW, sec, ← htx, rotB, turn, List.length_set, inj_r, ↓reduceIte, reduceCtorEq, Nat.reduceAdd, Nat.reduceLT, Nat.reduceLeDiff, Nat.reduceEqDiff, Int.reduceEq]
            all_goals (repeat' refine And.intro ?_ ?_) <;> try exact shut7
          · have hm0 : mr = false := by
              rw [hm, Bool.eq_false_iff]
              simp only [ne_eq, Bool.and_eq_true, decide_eq_true_eq]
              omega
            refine goh trivial ?_
            exact finh [some 2, some 3, some 4] (And.intro e1 hm0)
      · have hs' : sector a.length s i = false := by simpa using hs
        rw [hs'] at hm
        simp only [Bool.false_and] at hm
        repeat' first
          | with_reducible refine red ?_
          | refine W_seq ?_
          | (refine W_reg (s_rot_K.env [24, 25, 26, 27, 28, 29, 30, 31, 32, 33, 34, 37, 38]) s_rot_lv fun K' hK' => ?_
             simp only [go_sem, Dk.small, hs', ↓reduceIte, ↓reduceDIte, reduceCtorEq, Nat.reduceAdd, Nat.reduceMul, Nat.reduceSub, Nat.reduceDiv, Nat.reduceMod, Nat.reduceLT, Nat.reduceLeDiff, Nat.reduceEqDiff, Nat.reduceBEq, Int.reduceToNat, Int.reduceLE, Int.reduceLT, Int.reduceEq, Int.reduceNe, Int.reduceNeg]
             (repeat' refine And.intro ?_ ?_) <;> try first | with_reducible refine hK' ?_ | exact shut6)
          | with_reducible refine blockG_o (by decide) ?_
        refine W_cnd ?_ ?_ <;> intro hlit <;> try (cases hlit; done)
        refine goh trivial ?_
        exact finh [some 2, some 3, some 4] (And.intro e1 hm)
  · simp [no] at hp
end Go.Proofs.YtjedcphhajlnoaaGreatDoor
/- Functions: cores and stores copied; a store behind a fall, or with a byte turned. -/
namespace Go.Proofs.YtjedcphhajlnoaaGreatDoor
open Go.RowKit

@[go_sem] def ctCloneCset : Ct := ⟨false, [[some .cset]], fun args os => match args, os with
  | [.one (.isl .cset xs)], [] => ⟨xs.length ≤ 4000000, .one (.osl .cset 0 0 xs.length), [], [.arr .cset xs]⟩
  | _, _ => no⟩
theorem s_cloneCset_e : EnterOk Tryz.prog 241 := ⟨_, Tryz.func241, rfl, by decide⟩
@[go_sem] def s_cloneCset_lv : List (List Nat) := [[0], [0, 4], [2], [2]]
@[go_sem] noncomputable def s_cloneCset_K : Known := Known.nil
set_option maxHeartbeats 8000000 in
theorem s_cloneCset : Sound Tryz.prog 241 ctCloneCset := by
  have ke := s_cloneCset_K.env []
  have kl : Lives s_cloneCset_lv := trivial
  refine sound_intro (E := ⟨ti, s_cloneCset_K.Γ, []⟩) ke Tryz.func241 Tryz.ntmps241 rfl (rs := [.tmp 2]) rfl ?_
  intro args os hp
  unfold ctCloneCset at hp ⊢
  dsimp only at hp ⊢
  split at hp
  · rename_i xs
    refine ⟨by simp, fun φ0 w0 => ?_⟩
    have hlen : xs.length ≤ 4000000 := hp
    refine goh trivial ?_
    refine W_cond_nb _ _ (by exact rfl) (by exact trivial) ?_ ?_ <;> intro hx
    · refine goh trivial ?_
      subst hx
      exact finh [none] trivial
    · refine goh trivial ?_
      exact finh [some 1] trivial
  · simp [no, ifp] at hp
@[go_sem] def ctCloneEnt : Ct := ⟨false, [[some .ent]], fun args os => match args, os with
  | [.one (.isl .ent xs)], [] => ⟨xs.length ≤ 4000000, .one (.osl .ent 0 0 xs.length), [], [.arr .ent xs]⟩
  | _, _ => no⟩
theorem s_cloneEnt_e : EnterOk Tryz.prog 242 := ⟨_, Tryz.func242, rfl, by decide⟩
@[go_sem] def s_cloneEnt_lv : List (List Nat) := [[0], [0, 4], [2], [2]]
@[go_sem] noncomputable def s_cloneEnt_K : Known := Known.nil
set_option maxHeartbeats 8000000 in
theorem s_cloneEnt : Sound Tryz.prog 242 ctCloneEnt := by
  have ke := s_cloneEnt_K.env []
  have kl : Lives s_cloneEnt_lv := trivial
  refine sound_intro (E := ⟨ti, s_cloneEnt_K.Γ, []⟩) ke Tryz.func242 Tryz.ntmps242 rfl (rs := [.tmp 2]) rfl ?_
  intro args os hp
  unfold ctCloneEnt at hp ⊢
  dsimp only at hp ⊢
  split at hp
  · rename_i xs
    refine ⟨by simp, fun φ0 w0 => ?_⟩
    have hlen : xs.length ≤ 4000000 := hp
    refine goh trivial ?_
    refine W_cond_nb _ _ (by exact rfl) (by exact trivial) ?_ ?_ <;> intro hx
    · refine goh trivial ?_
      subst hx
      exact finh [none] trivial
    · refine goh trivial ?_
      exact finh [some 1] trivial
  · simp [no, ifp] at hp
theorem s_l5Copy_e : EnterOk Tryz.prog 240 := ⟨_, Tryz.func240, rfl, by decide⟩
@[go_sem] def s_l5Copy_lv : List (List Nat) := [[0], [2]]
@[go_sem] noncomputable def s_l5Copy_K : Known := Known.nil
set_option maxHeartbeats 8000000 in
theorem s_l5Copy : Sound Tryz.prog 240 ctCloneEnt := by
  have ke := s_l5Copy_K.env []
  have kl : Lives s_l5Copy_lv := trivial
  refine sound_intro (E := ⟨ti, s_l5Copy_K.Γ, []⟩) ke Tryz.func240 Tryz.ntmps240 rfl (rs := [.tmp 2]) rfl ?_
  intro args os hp
  unfold ctCloneEnt at hp ⊢
  dsimp only at hp ⊢
  split at hp
  · rename_i xs
    refine ⟨by simp, fun φ0 w0 => ?_⟩
    have hlen : xs.length ≤ 4000000 := hp
    refine goh trivial ?_
    exact finh [some 1] trivial
  · simp [no, ifp] at hp
@[go_sem] def ctClonePtr : Ct := ⟨false, [[some .ptr]], fun args os => match args, os with
  | [.one (.isl .ptr xs)], [] => ⟨xs.length ≤ 4000000, .one (.osl .ptr 0 0 xs.length), [], [.arr .ptr xs]⟩
  | _, _ => no⟩
theorem s_clonePtr_e : EnterOk Tryz.prog 243 := ⟨_, Tryz.func243, rfl, by decide⟩
@[go_sem] def s_clonePtr_lv : List (List Nat) := [[0], [0, 4], [2], [2]]
@[go_sem] noncomputable def s_clonePtr_K : Known := Known.nil
set_option maxHeartbeats 8000000 in
theorem s_clonePtr : Sound Tryz.prog 243 ctClonePtr := by
  have ke := s_clonePtr_K.env []
  have kl : Lives s_clonePtr_lv := trivial
  refine sound_intro (E := ⟨ti, s_clonePtr_K.Γ, []⟩) ke Tryz.func243 Tryz.ntmps243 rfl (rs := [.tmp 2]) rfl ?_
  intro args os hp
  unfold ctClonePtr at hp ⊢
  dsimp only at hp ⊢
  split at hp
  · rename_i xs
    refine ⟨by simp, fun φ0 w0 => ?_⟩
    have hlen : xs.length ≤ 4000000 := hp
    refine goh trivial ?_
    refine W_cond_nb _ _ (by exact rfl) (by exact trivial) ?_ ?_ <;> intro hx
    · refine goh trivial ?_
      subst hx
      exact finh [none] trivial
    · refine goh trivial ?_
      exact finh [some 1] trivial
  · simp [no, ifp] at hp
@[go_sem] def ctCloneInt : Ct := ⟨false, [[some .int]], fun args os => match args, os with
  | [.one (.isl .int xs)], [] => ⟨xs.length ≤ 4000000, .one (.osl .int 0 0 xs.length), [], [.arr .int xs]⟩
  | _, _ => no⟩
theorem s_cloneInt_e : EnterOk Tryz.prog 244 := ⟨_, Tryz.func244, rfl, by decide⟩
@[go_sem] def s_cloneInt_lv : List (List Nat) := [[0], [0, 4], [2], [2]]
@[go_sem] noncomputable def s_cloneInt_K : Known := Known.nil
set_option maxHeartbeats 8000000 in
theorem s_cloneInt : Sound Tryz.prog 244 ctCloneInt := by
  have ke := s_cloneInt_K.env []
  have kl : Lives s_cloneInt_lv := trivial
  refine sound_intro (E := ⟨ti, s_cloneInt_K.Γ, []⟩) ke Tryz.func244 Tryz.ntmps244 rfl (rs := [.tmp 2]) rfl ?_
  intro args os hp
  unfold ctCloneInt at hp ⊢
  dsimp only at hp ⊢
  split at hp
  · rename_i xs
    refine ⟨by simp, fun φ0 w0 => ?_⟩
    have hlen : xs.length ≤ 4000000 := hp
    refine goh trivial ?_
    refine W_cond_nb _ _ (by exact rfl) (by exact trivial) ?_ ?_ <;> intro hx
    · refine goh trivial ?_
      subst hx
      exact finh [none] trivial
    · refine goh trivial ?_
      exact finh [some 1] trivial
  · simp [no, ifp] at hp
theorem s_ownCore_e : EnterOk Tryz.prog 188 := ⟨_, Tryz.func188, rfl, by decide⟩
@[go_sem] def s_ownCore_lv : List (List Nat) := [[1, 2], [1, 2], [2]]
@[go_sem] noncomputable def s_ownCore_K : Known := ((((Known.nil).cons 241 ctCloneCset s_cloneCset s_cloneCset_e).cons 242 ctCloneEnt s_cloneEnt s_cloneEnt_e).cons 243 ctClonePtr s_clonePtr s_clonePtr_e).cons 244 ctCloneInt s_cloneInt s_cloneInt_e
set_option maxHeartbeats 8000000 in
theorem s_ownCore : Sound Tryz.prog 188 ctToCore := by
  have ke := s_ownCore_K.env []
  have kl : Lives s_ownCore_lv := trivial
  refine sound_intro (E := ⟨ti, s_ownCore_K.Γ, []⟩) ke Tryz.func188 Tryz.ntmps188 rfl (rs := [.cell 2 44]) rfl ?_
  intro args os hp
  unfold ctToCore at hp ⊢
  dsimp only at hp ⊢
  split at hp
  · rename_i x cs es ps y zs u
    refine ⟨by simp, fun φ0 w0 => ?_⟩
    obtain ⟨h1, h2, h3, h4⟩ : (Co.mk x cs es ps y zs u).small := hp
    simp only at h1 h2 h3 h4
    refine goh trivial ?_
    exact finh [some 2, some 3, some 4, some 5] trivial
  · simp [no] at hp
theorem s_l6Copy_e : EnterOk Tryz.prog 187 := ⟨_, Tryz.func187, rfl, by decide⟩
@[go_sem] def s_l6Copy_lv : List (List Nat) := [[1, 2], [1, 2, 3], [1, 2, 3], [1, 2, 3], [1, 2, 3], [2, 3], [2]]
@[go_sem] noncomputable def s_l6Copy_K : Known := (Known.nil).cons 240 ctCloneEnt s_l5Copy s_l5Copy_e
set_option maxHeartbeats 8000000 in
theorem s_l6Copy : Sound Tryz.prog 187 ctToCore := by
  have ke := s_l6Copy_K.env []
  have kl : Lives s_l6Copy_lv := trivial
  refine sound_intro (E := ⟨ti, s_l6Copy_K.Γ, []⟩) ke Tryz.func187 Tryz.ntmps187 rfl (rs := [.cell 2 44]) rfl ?_
  intro args os hp
  unfold ctToCore at hp ⊢
  dsimp only at hp ⊢
  split at hp
  · rename_i x cs es ps y zs u
    refine ⟨by simp, fun φ0 w0 => ?_⟩
    obtain ⟨h1, h2, h3, h4⟩ : (Co.mk x cs es ps y zs u).small := hp
    simp only at h1 h2 h3 h4
    refine goh trivial ?_
    exact finh [some 4, some 5, some 7, some 9] trivial
  · simp [no] at hp
theorem s_ownPool_e : EnterOk Tryz.prog 119 := ⟨_, Tryz.func119, rfl, by decide⟩
@[go_sem] def s_ownPool_lv : List (List Nat) := [[1, 2], [2]]
@[go_sem] noncomputable def s_ownPool_K : Known := ((Known.nil).cons 81 ctOwn s_own s_own_e).cons 188 ctToCore s_ownCore s_ownCore_e
set_option maxHeartbeats 8000000 in
theorem s_ownPool : Sound Tryz.prog 119 ctToPool := by
  have ke := s_ownPool_K.env []
  have kl : Lives s_ownPool_lv := trivial
  refine sound_intro (E := ⟨ti, s_ownPool_K.Γ, []⟩) ke Tryz.func119 Tryz.ntmps119 rfl (rs := [.cell 2 46]) rfl ?_
  intro args os hp
  unfold ctToPool at hp ⊢
  dsimp only at hp ⊢
  split at hp
  · rename_i a b l x cs es ps y zs u o
    refine ⟨by simp, fun φ0 w0 => ?_⟩
    obtain ⟨⟨g1, g2, g3⟩, ⟨h1, h2, h3, h4⟩⟩ : (Pl.mk ⟨a, b, l⟩ ⟨x, cs, es, ps, y, zs, u⟩ o).small := hp
    simp only at g1 g2 g3 h1 h2 h3 h4
    refine goh trivial ?_
    exact finh [some 2, some 3, some 4, some 5, some 6, some 7, some 8] trivial
  · simp [no] at hp
theorem s_l10Copy_e : EnterOk Tryz.prog 117 := ⟨_, Tryz.func117, rfl, by decide⟩
@[go_sem] def s_l10Copy_lv : List (List Nat) := [[1, 2], [2]]
@[go_sem] noncomputable def s_l10Copy_K : Known := ((Known.nil).cons 85 ctOwn s_copy s_copy_e).cons 187 ctToCore s_l6Copy s_l6Copy_e
set_option maxHeartbeats 8000000 in
theorem s_l10Copy : Sound Tryz.prog 117 ctToPool := by
  have ke := s_l10Copy_K.env []
  have kl : Lives s_l10Copy_lv := trivial
  refine sound_intro (E := ⟨ti, s_l10Copy_K.Γ, []⟩) ke Tryz.func117 Tryz.ntmps117 rfl (rs := [.cell 2 46]) rfl ?_
  intro args os hp
  unfold ctToPool at hp ⊢
  dsimp only at hp ⊢
  split at hp
  · rename_i a b l x cs es ps y zs u o
    refine ⟨by simp, fun φ0 w0 => ?_⟩
    obtain ⟨⟨g1, g2, g3⟩, ⟨h1, h2, h3, h4⟩⟩ : (Pl.mk ⟨a, b, l⟩ ⟨x, cs, es, ps, y, zs, u⟩ o).small := hp
    simp only at g1 g2 g3 h1 h2 h3 h4
    refine goh trivial ?_
    exact finh [some 2, some 3, some 4, some 5, some 6, some 7, some 8] trivial
  · simp [no] at hp
def Co.nil : Co := ⟨0, [], [], [], false, [], 0⟩
def Pl.nil : Pl := ⟨.nil, .nil, false⟩
structure Pl.fit (p : Pl) : Prop where
  disk : p.disk.small
  core : p.core.fit
noncomputable def poolFall (p : Pl) (fate : List Int) : Pl := if poolB p = true then ⟨dkFall p.disk fate, .nil, false⟩ else .nil
@[go_sem] noncomputable def ctPoolFall : Ct := ⟨false, [[some .str, some .str, some .late, none, some .cset, some .ent, some .ptr, none, some .int, none, none], [some .int]], fun args os => match args, os with
  | [.agg [.isl .str a, .isl .str b, .isl .late l, .val (.int .i64 x), .isl .cset cs, .isl .ent es, .isl .ptr ps, .val (.bool y), .isl .int zs, .val (.int .i64 u), .val (.bool o)], .one (.isl .int fate)], [] => ⟨(Pl.mk ⟨a, b, l⟩ ⟨x, cs, es, ps, y, zs, u⟩ o).fit ∧ fate.length ≤ 4000000, (poolFall ⟨⟨a, b, l⟩, ⟨x, cs, es, ps, y, zs, u⟩, o⟩ fate).v, [], (poolFall ⟨⟨a, b, l⟩, ⟨x, cs, es, ps, y, zs, u⟩, o⟩ fate).objs⟩
  | _, _ => no⟩
theorem s_poolFall_e : EnterOk Tryz.prog 51 := ⟨_, Tryz.func51, rfl, by decide⟩
@[go_sem] def s_poolFall_lv : List (List Nat) := [[1, 2, 4], [1, 2, 4, 7], [4], [4]]
@[go_sem] noncomputable def s_poolFall_K : Known := ((Known.nil).cons 16 ctPoolOk s_poolOk s_poolOk_e).cons 38 ctDiskFall s_diskFall s_diskFall_e
set_option maxHeartbeats 8000000 in
theorem s_poolFall : Sound Tryz.prog 51 ctPoolFall := by
  have ke := s_poolFall_K.env []
  have kl : Lives s_poolFall_lv := trivial
  refine sound_intro (E := ⟨ti, s_poolFall_K.Γ, []⟩) ke Tryz.func51 Tryz.ntmps51 rfl (rs := [.cell 4 46]) rfl ?_
  intro args os hp
  unfold ctPoolFall at hp ⊢
  dsimp only at hp ⊢
  split at hp
  · rename_i a b l x cs es ps y zs u o fate
    refine ⟨by simp, fun φ0 w0 => ?_⟩
    obtain ⟨⟨⟨g1, g2, g3⟩, hf⟩, hfl⟩ : (Pl.mk ⟨a, b, l⟩ ⟨x, cs, es, ps, y, zs, u⟩ o).fit ∧ fate.length ≤ 4000000 := hp
    simp only at g1 g2 g3 hf
    refine goh trivial ?_
    refine W_cnd ?_ ?_ <;> (try simp only [cnd_r]) <;> intro hc
    · have e : poolFall ⟨⟨a, b, l⟩, ⟨x, cs, es, ps, y, zs, u⟩, o⟩ fate = .nil := by unfold poolFall; rw [if_neg (by rw [hc]; decide)]
      refine goh trivial ?_
      refine ⟨by (simp only [go_sem, e, Pl.nil, Dk.nil, Co.nil, ↓reduceIte, reduceCtorEq, Nat.reduceAdd, Nat.reduceLT, Nat.reduceLeDiff, Nat.reduceEqDiff]) <;> trivial, [none, none, none, none, none, none, none], ?_⟩
      all_goals try simp only [go_sem, e, Pl.nil, Dk.nil, Co.nil, inj_r, ↓reduceIte, reduceCtorEq, Nat.reduceAdd, Nat.reduceLT, Nat.reduceLeDiff, Nat.reduceEqDiff, Int.reduceEq]
      all_goals (repeat' refine And.intro ?_ ?_) <;> try exact shut7
    · have e : poolFall ⟨⟨a, b, l⟩, ⟨x, cs, es, ps, y, zs, u⟩, o⟩ fate = ⟨dkFall ⟨a, b, l⟩ fate, .nil, false⟩ := by unfold poolFall; rw [if_pos hc]
      refine goh trivial ?_
      refine ⟨by (simp only [go_sem, e, Co.nil, ↓reduceIte, reduceCtorEq, Nat.reduceAdd, Nat.reduceLT, Nat.reduceLeDiff, Nat.reduceEqDiff]) <;> trivial, [some 2, some 3, some 4, none, none, none, none], ?_⟩
      all_goals try simp only [go_sem, e, Co.nil, inj_r, ↓reduceIte, reduceCtorEq, Nat.reduceAdd, Nat.reduceLT, Nat.reduceLeDiff, Nat.reduceEqDiff, Int.reduceEq]
      all_goals (repeat' refine And.intro ?_ ?_) <;> try exact shut7
  · simp [no] at hp
theorem s_specPoolFall_e : EnterOk Tryz.prog 49 := ⟨_, Tryz.func49, rfl, by decide⟩
@[go_sem] def s_specPoolFall_lv : List (List Nat) := [[1, 2, 4], [1, 2, 4, 7], [4], [4]]
@[go_sem] noncomputable def s_specPoolFall_K : Known := ((Known.nil).cons 14 ctPoolOk s_specPoolOk s_specPoolOk_e).cons 123 ctDiskFall s_specFall s_specFall_e
set_option maxHeartbeats 8000000 in
theorem s_specPoolFall : Sound Tryz.prog 49 ctPoolFall := by
  have ke := s_specPoolFall_K.env []
  have kl : Lives s_specPoolFall_lv := trivial
  refine sound_intro (E := ⟨ti, s_specPoolFall_K.Γ, []⟩) ke Tryz.func49 Tryz.ntmps49 rfl (rs := [.cell 4 46]) rfl ?_
  intro args os hp
  unfold ctPoolFall at hp ⊢
  dsimp only at hp ⊢
  split at hp
  · rename_i a b l x cs es ps y zs u o fate
    refine ⟨by simp, fun φ0 w0 => ?_⟩
    obtain ⟨⟨⟨g1, g2, g3⟩, hf⟩, hfl⟩ : (Pl.mk ⟨a, b, l⟩ ⟨x, cs, es, ps, y, zs, u⟩ o).fit ∧ fate.length ≤ 4000000 := hp
    simp only at g1 g2 g3 hf
    refine goh trivial ?_
    refine W_cnd ?_ ?_ <;> (try simp only [cnd_r]) <;> intro hc
    · have e : poolFall ⟨⟨a, b, l⟩, ⟨x, cs, es, ps, y, zs, u⟩, o⟩ fate = .nil := by unfold poolFall; rw [if_neg (by rw [hc]; decide)]
      refine goh trivial ?_
      refine ⟨by (simp only [go_sem, e, Pl.nil, Dk.nil, Co.nil, ↓reduceIte, reduceCtorEq, Nat.reduceAdd, Nat.reduceLT, Nat.reduceLeDiff, Nat.reduceEqDiff]) <;> trivial, [none, none, none, none, none, none, none], ?_⟩
      all_goals try simp only [go_sem, e, Pl.nil, Dk.nil, Co.nil, inj_r, ↓reduceIte, reduceCtorEq, Nat.reduceAdd, Nat.reduceLT, Nat.reduceLeDiff, Nat.reduceEqDiff, Int.reduceEq]
      all_goals (repeat' refine And.intro ?_ ?_) <;> try exact shut7
    · have e : poolFall ⟨⟨a, b, l⟩, ⟨x, cs, es, ps, y, zs, u⟩, o⟩ fate = ⟨dkFall ⟨a, b, l⟩ fate, .nil, false⟩ := by unfold poolFall; rw [if_pos hc]
      refine goh trivial ?_
      refine ⟨by (simp only [go_sem, e, Co.nil, ↓reduceIte, reduceCtorEq, Nat.reduceAdd, Nat.reduceLT, Nat.reduceLeDiff, Nat.reduceEqDiff]) <;> trivial, [some 2, some 3, some 4, none, none, none, none], ?_⟩
      all_goals try simp only [go_sem, e, Co.nil, inj_r, ↓reduceIte, reduceCtorEq, Nat.reduceAdd, Nat.reduceLT, Nat.reduceLeDiff, Nat.reduceEqDiff, Int.reduceEq]
      all_goals (repeat' refine And.intro ?_ ?_) <;> try exact shut7
  · simp [no] at hp
noncomputable def poolRot (p : Pl) (s at_ k mask : Int) : Pl := if poolB p = true then ⟨dkRot p.disk s at_ k mask, p.core, p.up⟩ else .nil
@[go_sem] noncomputable def ctPoolRot : Ct := ⟨false, [[some .str, some .str, some .late, none, some .cset, some .ent, some .ptr, none, some .int, none, none]], fun args os => match args, os with
  | [.agg [.isl .str a, .isl .str b, .isl .late l, .val (.int .i64 x), .isl .cset cs, .isl .ent es, .isl .ptr ps, .val (.bool y), .isl .int zs, .val (.int .i64 u), .val (.bool o)], .one (.val (.int .i64 s)), .one (.val (.int .i64 i)), .one (.val (.int .i64 k)), .one (.val (.int .i64 mask))], [] => ⟨(Pl.mk ⟨a, b, l⟩ ⟨x, cs, es, ps, y, zs, u⟩ o).fit, (poolRot ⟨⟨a, b, l⟩, ⟨x, cs, es, ps, y, zs, u⟩, o⟩ s i k mask).v, [], (poolRot ⟨⟨a, b, l⟩, ⟨x, cs, es, ps, y, zs, u⟩, o⟩ s i k mask).objs⟩
  | _, _ => no⟩
theorem s_poolRot_e : EnterOk Tryz.prog 55 := ⟨_, Tryz.func55, rfl, by decide⟩
@[go_sem] def s_poolRot_lv : List (List Nat) := [[1, 2, 3, 4, 5, 10], [1, 2, 3, 4, 5, 10, 14], [10], [1, 2, 3, 4, 5, 10, 11], [10, 11], [10]]
@[go_sem] noncomputable def s_poolRot_K : Known := (((Known.nil).cons 16 ctPoolOk s_poolOk s_poolOk_e).cons 119 ctToPool s_ownPool s_ownPool_e).cons 125 ctDiskRot s_rot s_rot_e
set_option maxHeartbeats 8000000 in
theorem s_poolRot : Sound Tryz.prog 55 ctPoolRot := by
  have ke := s_poolRot_K.env []
  have kl : Lives s_poolRot_lv := trivial
  refine sound_intro (E := ⟨ti, s_poolRot_K.Γ, []⟩) ke Tryz.func55 Tryz.ntmps55 rfl (rs := [.cell 10 46]) rfl ?_
  intro args os hp
  unfold ctPoolRot at hp ⊢
  dsimp only at hp ⊢
  split at hp
  · rename_i a b l x cs es ps y zs u o s i k mask
    refine ⟨by simp, fun φ0 w0 => ?_⟩
    obtain ⟨⟨g1, g2, g3⟩, hf⟩ : (Pl.mk ⟨a, b, l⟩ ⟨x, cs, es, ps, y, zs, u⟩ o).fit := hp
    obtain ⟨f1, f2, f3, f4⟩ := hf.small
    simp only at g1 g2 g3 hf f1 f2 f3 f4
    refine goh trivial ?_
    refine W_cnd ?_ ?_ <;> (try simp only [cnd_r]) <;> intro hc
    · have e : poolRot ⟨⟨a, b, l⟩, ⟨x, cs, es, ps, y, zs, u⟩, o⟩ s i k mask = .nil := by unfold poolRot; rw [if_neg (by rw [hc]; decide)]
      refine goh trivial ?_
      refine ⟨by (simp only [go_sem, e, Pl.nil, Dk.nil, Co.nil, ↓reduceIte, reduceCtorEq, Nat.reduceAdd, Nat.reduceLT, Nat.reduceLeDiff, Nat.reduceEqDiff]) <;> trivial, [none, none, none, none, none, none, none], ?_⟩
      all_goals try simp only [go_sem, e, Pl.nil, Dk.nil, Co.nil, inj_r, ↓reduceIte, reduceCtorEq, Nat.reduceAdd, Nat.reduceLT, Nat.reduceLeDiff, Nat.reduceEqDiff, Int.reduceEq]
      all_goals (repeat' refine And.intro ?_ ?_) <;> try exact shut7
    · have e : poolRot ⟨⟨a, b, l⟩, ⟨x, cs, es, ps, y, zs, u⟩, o⟩ s i k mask = ⟨dkRot ⟨a, b, l⟩ s i k mask, ⟨x, cs, es, ps, y, zs, u⟩, o⟩ := by unfold poolRot; rw [if_pos hc]
      repeat' first
        | with_reducible refine red ?_
        | refine W_seq ?_
        | (refine W_reg (s_poolRot_K.env []) s_poolRot_lv fun K' hK' => ?_
           simp only [go_sem, Pl.small, ↓reduceIte, ↓reduceDIte, reduceCtorEq, Nat.reduceAdd, Nat.reduceMul, Nat.reduceSub, Nat.reduceDiv, Nat.reduceMod, Nat.reduceLT, Nat.reduceLeDiff, Nat.reduceEqDiff, Nat.reduceBEq, Int.reduceToNat, Int.reduceLE, Int.reduceLT, Int.reduceEq, Int.reduceNe, Int.reduceNeg]
           (repeat' refine And.intro ?_ ?_) <;> try first | with_reducible refine hK' ?_ | exact shut6)
        | with_reducible refine blockG_o (by decide) ?_
      exact finh [some 10, some 11, some 12, some 5, some 6, some 7, some 8] e
  · simp [no] at hp
theorem s_specPoolRot_e : EnterOk Tryz.prog 54 := ⟨_, Tryz.func54, rfl, by decide⟩
@[go_sem] def s_specPoolRot_lv : List (List Nat) := [[1, 2, 3, 4, 5, 10], [1, 2, 3, 4, 5, 10, 14], [10], [1, 2, 3, 4, 10, 11], [10, 11], [10]]
@[go_sem] noncomputable def s_specPoolRot_K : Known := (((Known.nil).cons 14 ctPoolOk s_specPoolOk s_specPoolOk_e).cons 117 ctToPool s_l10Copy s_l10Copy_e).cons 124 ctDiskRot s_specRot s_specRot_e
set_option maxHeartbeats 8000000 in
theorem s_specPoolRot : Sound Tryz.prog 54 ctPoolRot := by
  have ke := s_specPoolRot_K.env []
  have kl : Lives s_specPoolRot_lv := trivial
  refine sound_intro (E := ⟨ti, s_specPoolRot_K.Γ, []⟩) ke Tryz.func54 Tryz.ntmps54 rfl (rs := [.cell 10 46]) rfl ?_
  intro args os hp
  unfold ctPoolRot at hp ⊢
  dsimp only at hp ⊢
  split at hp
  · rename_i a b l x cs es ps y zs u o s i k mask
    refine ⟨by simp, fun φ0 w0 => ?_⟩
    obtain ⟨⟨g1, g2, g3⟩, hf⟩ : (Pl.mk ⟨a, b, l⟩ ⟨x, cs, es, ps, y, zs, u⟩ o).fit := hp
    obtain ⟨f1, f2, f3, f4⟩ := hf.small
    simp only at g1 g2 g3 hf f1 f2 f3 f4
    refine goh trivial ?_
    refine W_cnd ?_ ?_ <;> (try simp only [cnd_r]) <;> intro hc
    · have e : poolRot ⟨⟨a, b, l⟩, ⟨x, cs, es, ps, y, zs, u⟩, o⟩ s i k mask = .nil := by unfold poolRot; rw [if_neg (by rw [hc]; decide)]
      refine goh trivial ?_
      refine ⟨by (simp only [go_sem, e, Pl.nil, Dk.nil, Co.nil, ↓reduceIte, reduceCtorEq, Nat.reduceAdd, Nat.reduceLT, Nat.reduceLeDiff, Nat.reduceEqDiff]) <;> trivial, [none, none, none, none, none, none, none], ?_⟩
      all_goals try simp only [go_sem, e, Pl.nil, Dk.nil, Co.nil, inj_r, ↓reduceIte, reduceCtorEq, Nat.reduceAdd, Nat.reduceLT, Nat.reduceLeDiff, Nat.reduceEqDiff, Int.reduceEq]
      all_goals (repeat' refine And.intro ?_ ?_) <;> try exact shut7
    · have e : poolRot ⟨⟨a, b, l⟩, ⟨x, cs, es, ps, y, zs, u⟩, o⟩ s i k mask = ⟨dkRot ⟨a, b, l⟩ s i k mask, ⟨x, cs, es, ps, y, zs, u⟩, o⟩ := by unfold poolRot; rw [if_pos hc]
      repeat' first
        | with_reducible refine red ?_
        | refine W_seq ?_
        | (refine W_reg (s_specPoolRot_K.env []) s_specPoolRot_lv fun K' hK' => ?_
           simp only [go_sem, Pl.small, ↓reduceIte, ↓reduceDIte, reduceCtorEq, Nat.reduceAdd, Nat.reduceMul, Nat.reduceSub, Nat.reduceDiv, Nat.reduceMod, Nat.reduceLT, Nat.reduceLeDiff, Nat.reduceEqDiff, Nat.reduceBEq, Int.reduceToNat, Int.reduceLE, Int.reduceLT, Int.reduceEq, Int.reduceNe, Int.reduceNeg]
           (repeat' refine And.intro ?_ ?_) <;> try first | with_reducible refine hK' ?_ | exact shut6)
        | with_reducible refine blockG_o (by decide) ?_
      exact finh [some 10, some 11, some 12, some 5, some 6, some 7, some 8] e
  · simp [no] at hp
end Go.Proofs.YtjedcphhajlnoaaGreatDoor
