import Derived.Test.YtjedcphhajlnoaaGreatDoorM9
import Derived.Test.YtjedcphhajlnoaaGreatDoorM15
import Derived.Test.YtjedcphhajlnoaaGreatDoorM16
import Derived.Test.YtjedcphhajlnoaaGreatDoorM17
set_option linter.unusedSimpArgs false
set_option linter.unusedVariables false
set_option linter.unusedSectionVars false
/- Functions: valid cores, valid stores. -/
namespace Go.Proofs.YtjedcphhajlnoaaGreatDoor
open Go.RowKit

theorem counts_eq {cs : List CSet} {es : List Ent} (h : DdtP es) (hs : cs.any csetBad = false) : countB (refsP cs) es = (countsS (refsP cs) es && sumsS (refsP cs) es) := by
  have hlow := refs_ok hs
  have hrc : ∀ k, k < es.length → rcnt (refsP cs) (es.getD k ET.ent.dflt).at_ = cntAt (refsP cs) (es.getD k ET.ent.dflt).at_ := fun k hk => by
    have := h.asc.lo k hk
    unfold rcnt
    rw [if_pos (by omega)]
  have hsum : (∀ p ∈ refsP cs, 0 < p.at_ → thereE es p.at_ = true) → (∀ k, k < es.length → (es.getD k ET.ent.dflt).count = cntAt (refsP cs) (es.getD k ET.ent.dflt).at_) → sumC es = posN (refsP cs) := fun h1 h2 => by
    have h3 := cnt_sum h.asc (refsP cs) h1
    rw [← h3]
    have : ∀ l : List Ent, (∀ e ∈ l, e.count = cntAt (refsP cs) e.at_) → sumC l = ((l.map fun e => cntAt (refsP cs) e.at_).sum : Nat) := fun l => by
      induction l with
      | nil => intro _; rfl
      | cons a l ih =>
        intro hl
        have h4 : sumC (a :: l) = a.count + sumC l := by unfold sumC; rw [List.map_cons, List.sum_cons]
        rw [h4, ih fun e he => hl e (List.mem_cons_of_mem _ he), hl a (by simp), List.map_cons, List.sum_cons]
        omega
    refine this es fun e he => ?_
    obtain ⟨k, hk, rfl⟩ := List.getElem_of_mem he
    have h5 := h2 k hk
    rwa [show es.getD k ET.ent.dflt = es[k] by simp [hk]] at h5
  rw [Bool.eq_iff_iff, Bool.and_eq_true, countB_true, countsS_true, sumsS_true]
  constructor
  · rintro ⟨⟨h1⟩, h2⟩
    refine ⟨⟨fun k hk => by rw [hrc k hk, h2 k hk], hsum (fun p hp h0 => (h1 p hp (by omega)).1) h2⟩, fun p hp h0 => h1 p hp (by omega)⟩
  · rintro ⟨⟨h1, -⟩, h2⟩
    refine ⟨⟨fun p hp h0 => h2 p hp ?_⟩, fun k hk => by rw [← h1 k hk, hrc k hk]⟩
    have := ptr_low (hlow p hp)
    omega
theorem Co.ok_eq {c : Co} (h1 : 0 ≤ c.txg ∧ c.txg ≤ 1000000) (h2 : ddtB c.ddt = true) (h3 : c.parts.length ≤ 8) (h4 : c.parts.any partBad = false) (h5 : 0 ≤ c.logn ∧ c.logn ≤ 8) (h6 : safeB c.safe = true) : c.ok = (!c.sets.any csetBad && (bookB (frameOf c.sets) && countB (refsP c.sets) c.ddt)) := by
  rw [Bool.eq_iff_iff, Co.ok_true]
  simp only [Bool.and_eq_true, Bool.not_eq_true', countB_true]
  exact ⟨fun h => ⟨h.sets, h.book, h.counts⟩, fun h => ⟨h1, ddtB_true.1 h2, ⟨h3, h4⟩, h5, safeB_true.1 h6, h.1, h.2.1, h.2.2⟩⟩
@[go_sem] noncomputable def ctBadCset : Ct := ⟨false, [], fun args os => match args, os with
  | [.agg cs], [] => (match csetOf cs with | some s => ifp s.small (vb (csetBad s)) | none => no)
  | _, _ => no⟩
theorem s_coreOk2_e : EnterOk Tryz.prog 222 := ⟨_, Tryz.func222, rfl, by decide⟩
@[go_sem] def s_coreOk2_lv : List (List Nat) := [[1], [2]]
@[go_sem] noncomputable def s_coreOk2_K : Known := (Known.nil).cons 223 ctSetOk s_setOk s_setOk_e
set_option maxHeartbeats 8000000 in
theorem s_coreOk2 : Sound Tryz.prog 222 ctBadCset := by
  have ke := s_coreOk2_K.env []
  have kl : Lives s_coreOk2_lv := trivial
  refine sound_intro (E := ⟨ti, s_coreOk2_K.Γ, []⟩) ke Tryz.func222 Tryz.ntmps222 rfl (rs := [.tmp 2]) rfl ?_
  intro args os hp
  unfold ctBadCset at hp ⊢
  dsimp only at hp ⊢
  split at hp
  · rename_i cs
    split at hp
    · rename_i s hs
      obtain rfl := csetOf_some hs
      have h1 : s.small := hp
      clear hs
      refine ⟨by simp, fun φ0 w0 => ?_⟩
      refine goh trivial ?_
      refine ⟨by (simp only [go_sem, csetBad, ↓reduceIte, reduceCtorEq, Nat.reduceAdd, Nat.reduceLT, Nat.reduceLeDiff, Nat.reduceEqDiff]) <;> trivial, [], ?_⟩
      all_goals try simp only [go_sem, csetBad, inj_r, ↓reduceIte, reduceCtorEq, Nat.reduceAdd, Nat.reduceLT, Nat.reduceLeDiff, Nat.reduceEqDiff, Int.reduceEq]
      all_goals (repeat' refine And.intro ?_ ?_) <;> try exact shut7
    · simp [no] at hp
  · simp [no] at hp
@[go_sem] noncomputable def ctIxCset : Ct := ⟨false, [[some .cset]], fun args os => match args, os with
  | [.one (.isl .cset xs), .one (.fn 222 [])], [] => ifp (xs.length ≤ 4000000 ∧ ∀ i : Nat, (xs.getD i ET.cset.dflt).small) (vi (firstAt csetBad xs))
  | _, _ => no⟩
theorem s_ixCset_e : EnterOk Tryz.prog 77 := ⟨_, Tryz.func77, rfl, by decide⟩
@[go_sem] def s_ixCset_lv : List (List Nat) := [[0, 1], [0, 1, 7, 8], [0, 1, 7, 8, 9], [0, 1, 5, 7, 8], [0, 1, 5, 7, 8, 16], [4], [0, 1, 7, 8], [4]]
@[go_sem] noncomputable def s_ixCset_K : Known := (Known.nil).cons 222 ctBadCset s_coreOk2 s_coreOk2_e
set_option maxHeartbeats 8000000 in
theorem s_ixCset : Sound Tryz.prog 77 ctIxCset := by
  have ke := s_ixCset_K.env []
  have kl : Lives s_ixCset_lv := trivial
  refine sound_intro (E := ⟨ti, s_ixCset_K.Γ, []⟩) ke Tryz.func77 Tryz.ntmps77 rfl (rs := [.tmp 4]) rfl ?_
  intro args os hp
  unfold ctIxCset at hp ⊢
  dsimp only at hp ⊢
  split at hp
  · rename_i xs
    refine ⟨by simp, fun φ0 w0 => ?_⟩
    obtain ⟨hlen, hsm⟩ : xs.length ≤ 4000000 ∧ ∀ i : Nat, (xs.getD i ET.cset.dflt).small := hp
    refine goh trivial ?_
    refine W_for xs.length (fun i => ∀ j, j < i → csetBad (xs.getD j ET.cset.dflt) = false) (fun i => ⟨[(8, vi i), (7, vi xs.length), (0, .one (.isl .cset xs)), (1, .one (.fn 222 []))], [], []⟩) [] (leh trivial) (by omega) fun i hi hb => ?_
    refine goh trivial ?_
    refine W_cnd ?_ ?_ <;> (try simp only [cnd_r]) <;> intro hlt
    · have hs := hsm i
      refine goh trivial ?_
      refine W_cnd ?_ ?_ <;> (try simp only [cnd_r]) <;> intro hl
      · have e : firstAt csetBad xs = i := firstAt_some (d := ET.cset.dflt) (by omega) hb hl
        refine goh trivial ?_
        exact finh [] e
      · refine goh trivial ?_
        exact ⟨[], by omega, leh trivial, fun j hj => by
          rcases Nat.lt_succ_iff_lt_or_eq.1 hj with h | rfl
          · exact hb j h
          · exact hl⟩
    · have e : firstAt csetBad xs = -1 := firstAt_none (d := ET.cset.dflt) fun j hj => hb j (by omega)
      refine goh trivial ?_
      exact finh [] e
  · simp [no, ifp] at hp
@[go_sem] noncomputable def ctHasCset : Ct := ⟨false, [[some .cset]], fun args os => match args, os with
  | [.one (.isl .cset xs), .one (.fn 222 [])], [] => ifp (xs.length ≤ 4000000 ∧ ∀ i : Nat, (xs.getD i ET.cset.dflt).small) (vb (xs.any csetBad))
  | _, _ => no⟩
theorem s_hasCset_e : EnterOk Tryz.prog 221 := ⟨_, Tryz.func221, rfl, by decide⟩
@[go_sem] def s_hasCset_lv : List (List Nat) := [[0, 1], [4]]
@[go_sem] noncomputable def s_hasCset_K : Known := (Known.nil).cons 77 ctIxCset s_ixCset s_ixCset_e
set_option maxHeartbeats 8000000 in
theorem s_hasCset : Sound Tryz.prog 221 ctHasCset := by
  have ke := s_hasCset_K.env []
  have kl : Lives s_hasCset_lv := trivial
  refine sound_intro (E := ⟨ti, s_hasCset_K.Γ, []⟩) ke Tryz.func221 Tryz.ntmps221 rfl (rs := [.tmp 4]) rfl ?_
  intro args os hp
  unfold ctHasCset at hp ⊢
  dsimp only at hp ⊢
  split at hp
  · rename_i xs
    refine ⟨by simp, fun φ0 w0 => ?_⟩
    obtain ⟨hlen, hsm⟩ : xs.length ≤ 4000000 ∧ ∀ i : Nat, (xs.getD i ET.cset.dflt).small := hp
    refine goh trivial ?_
    refine ⟨by (simp only [go_sem, ↓reduceIte, reduceCtorEq, Nat.reduceAdd, Nat.reduceLT, Nat.reduceLeDiff, Nat.reduceEqDiff]) <;> trivial, [], ?_⟩
    all_goals try simp only [go_sem, inj_r, ↓reduceIte, reduceCtorEq, Nat.reduceAdd, Nat.reduceLT, Nat.reduceLeDiff, Nat.reduceEqDiff, Int.reduceEq]
    all_goals (repeat' refine And.intro ?_ ?_) <;> try exact shut7
    exact firstAt_ge _ _
  · simp [no, ifp] at hp
theorem safe_no {zs : List Int} {i : Nat} (hi : i < zs.length) (h : (¬ 13 ≤ zs.getD i ET.int.dflt ∨ ¬ zs.getD i ET.int.dflt ≤ 119) ∨ (i : Int) > 0 ∧ zs.getD (i - 1) ET.int.dflt ≥ zs.getD i ET.int.dflt) : safeB zs = false := safeB_false.2 fun hs => by
  obtain ⟨⟨h1, h2⟩, h3⟩ := hs i hi
  rcases h with (h | h) | ⟨h4, h5⟩
  · exact h h1
  · exact h h2
  · exact absurd (h3 (by omega)) (Int.not_lt.2 h5)
theorem safe_yes {zs : List Int} {i : Nat} (hb : ∀ j, j < i → Safe zs j) (h : (13 ≤ zs.getD i ET.int.dflt ∧ zs.getD i ET.int.dflt ≤ 119) ∧ (¬ (i : Int) > 0 ∨ ¬ zs.getD (i - 1) ET.int.dflt ≥ zs.getD i ET.int.dflt)) : ∀ j, j < i + 1 → Safe zs j := fun j hj => by
  rcases Nat.lt_succ_iff_lt_or_eq.1 hj with h2 | rfl
  · exact hb j h2
  · exact ⟨h.1, fun h0 => h.2.elim (fun h2 => absurd (show (j : Int) > 0 by omega) h2) fun h2 => Int.not_le.1 h2⟩
structure Co.fit (c : Co) : Prop where
  small : c.small
  sets : ∀ i : Nat, (c.sets.getD i ET.cset.dflt).small
@[go_sem] noncomputable def ctCoreOk : Ct := ⟨false, [[none, some .cset, some .ent, some .ptr, none, some .int, none]], fun args os => match args, os with
  | [.agg [.val (.int .i64 txg), .isl .cset cs, .isl .ent es, .isl .ptr ps, .val (.bool dirty), .isl .int zs, .val (.int .i64 logn)]], [] => ifp (Co.mk txg cs es ps dirty zs logn).fit (vb (Co.mk txg cs es ps dirty zs logn).ok)
  | _, _ => no⟩
theorem frame_small {cs : List CSet} (h : ∀ i : Nat, (cs.getD i ET.cset.dflt).small) (i : Nat) : ((frameOf cs).getD i ET.bset.dflt).name.size ≤ 9223372036854775807 := by
  rw [frame_at]; exact (h i).1
/-- A valid store. -/
noncomputable def poolB (p : Pl) : Bool := p.disk.ok && (decide (13 < p.disk.a.length) && p.core.ok)
theorem s_coreOk_e : EnterOk Tryz.prog 157 := ⟨_, Tryz.func157, rfl, by decide⟩
@[go_sem] def s_coreOk_lv : List (List Nat) := [[1], [1, 31], [2], [1, 33, 34, 35], [1, 33, 34, 35, 36], [1, 3, 4, 33, 34, 35], [1, 33, 34, 35, 56], [2], [1, 33, 34, 35], [2]]
@[go_sem] noncomputable def s_coreOk_K : Known := (((((((((Known.nil).cons 89 ctWithin s_within s_within_e).cons 218 ctDdtOk s_ddtOk s_ddtOk_e).cons 219 ctHasPart s_hasPart s_hasPart_e).cons 220 ctPartBad s_coreOk1 s_coreOk1_e).cons 221 ctHasCset s_hasCset s_hasCset_e).cons 222 ctBadCset s_coreOk2 s_coreOk2_e).cons 225 ctFrame s_frame s_frame_e).cons 224 ctBookOk s_bookOk s_bookOk_e).cons 226 ctCountsOk s_countsOk s_countsOk_e
set_option maxHeartbeats 8000000 in
theorem s_coreOk : Sound Tryz.prog 157 ctCoreOk := by
  have ke := s_coreOk_K.env []
  have kl : Lives s_coreOk_lv := trivial
  refine sound_intro (E := ⟨ti, s_coreOk_K.Γ, []⟩) ke Tryz.func157 Tryz.ntmps157 rfl (rs := [.tmp 2]) rfl ?_
  intro args os hp
  unfold ctCoreOk at hp ⊢
  dsimp only at hp ⊢
  split at hp
  · rename_i txg cs es ps dirty zs logn
    refine ⟨by simp, fun φ0 w0 => ?_⟩
    obtain ⟨⟨h1, h2, h3, h4⟩, hsm⟩ : (Co.mk txg cs es ps dirty zs logn).fit := hp
    simp only at h1 h2 h3 h4 hsm
    have hfs := frame_small hsm
    have hfl := frame_len cs
    refine goh trivial ?_
    refine W_cnd ?_ ?_ <;> (try simp only [cnd_r]) <;> intro hc
    · have e : (Co.mk txg cs es ps dirty zs logn).ok = false := Co.ok_false.2 fun h => by
        have h1 := h.txg
        have h2 := ddtB_true.2 h.ddt
        have h3 := h.parts
        have h4 := h.logn
        simp only at h1 h2 h3 h4
        rcases hc with (((hc | hc) | hc) | hc) | hc
        · omega
        · rw [h2] at hc; cases hc
        · omega
        · rw [h3.2] at hc; cases hc
        · omega
      refine goh trivial ?_
      exact finh [] e
    · obtain ⟨⟨⟨⟨k1, k2⟩, k3⟩, k4⟩, k5⟩ := hc
      have k2 : ddtB es = true := by simpa using k2
      have k4 : ps.any partBad = false := by simpa using k4
      have hD := ddtB_true.1 k2
      have hasc := hD.asc
      have hes := hD.few
      refine goh trivial ?_
      refine W_for zs.length (fun i => ∀ j, j < i → Safe zs j) (fun i => ⟨[(1, .one (.ptr 0 0)), (33, .one (.isl .int zs)), (34, vi zs.length), (35, vi i)], [some (obCo txg cs es ps dirty zs logn)], []⟩) [some 0] (leh trivial) (by omega) fun i hi hb => ?_
      refine goh trivial ?_
      refine W_cnd ?_ ?_ <;> (try simp only [cnd_r]) <;> intro hlt
      · have w1 : IntKind.i64.wrap ((i : Int) - 1) = (i : Int) - 1 := wrap_id _ (by omega) (by omega)
        have ht : ((i : Int) - 1).toNat = i - 1 := by omega
        refine goh (And.intro w1 ht) ?_
        refine W_cnd ?_ ?_ <;> (try simp only [cnd_r]) <;> intro hx
        · have e : (Co.mk txg cs es ps dirty zs logn).ok = false := Co.ok_false.2 fun h => by
            have := safeB_true.2 h.safe
            rw [safe_no (by omega) hx] at this; cases this
          refine goh trivial ?_
          exact finh [] e
        · refine goh trivial ?_
          exact ⟨[some 0], by omega, leh trivial, safe_yes hb hx⟩
      · have hS : safeB zs = true := safeB_true.2 fun j hj => hb j (by omega)
        have e := Co.ok_eq (c := ⟨txg, cs, es, ps, dirty, zs, logn⟩) k1 k2 (by simp only; omega) k4 k5 hS
        simp only at e
        cases hA : cs.any csetBad with
        | true =>
          refine goh hA ?_
          rw [hA] at e
          exact finh [] e
        | false =>
          have hat : ∀ p ∈ refsP cs, -1000000 ≤ p.at_ ∧ p.at_ ≤ 1000000 := fun p hp => by
            have := ptr_low (refs_ok hA p hp)
            omega
          rw [hA] at e
          refine goh hA ?_
          refine ⟨by (simp only [go_sem, e, ↓reduceIte, reduceCtorEq, Nat.reduceAdd, Nat.reduceLT, Nat.reduceLeDiff, Nat.reduceEqDiff]) <;> trivial, [], ?_⟩
          all_goals try simp only [go_sem, e, inj_r, ↓reduceIte, reduceCtorEq, Nat.reduceAdd, Nat.reduceLT, Nat.reduceLeDiff, Nat.reduceEqDiff, Int.reduceEq]
          all_goals (repeat' refine And.intro ?_ ?_) <;> try exact shut7
          cases bookB (frameOf cs) <;> rfl
  · simp [no, ifp] at hp
theorem s_specCoreOk_e : EnterOk Tryz.prog 69 := ⟨_, Tryz.func69, rfl, by decide⟩
@[go_sem] def s_specCoreOk_lv : List (List Nat) := [[1], [1, 40], [2], [1, 3], [1, 3, 45], [1, 3], [1, 3, 54], [2], [1, 4], [1, 4, 59], [1, 4], [1, 4, 77], [2], [2]]
@[go_sem] noncomputable def s_specCoreOk_K : Known := ((((((((Known.nil).cons 148 ctDdtOk s_specDdtOk s_specDdtOk_e).cons 149 ctPlaces s_l6Places s_l6Places_e).cons 150 ctSetOk s_l6Set s_l6Set_e).cons 25 ctPtrOk s_specPtrOk s_specPtrOk_e).cons 74 ctFrame s_l6Names s_l6Names_e).cons 151 ctBookOk s_specBookOk s_specBookOk_e).cons 152 ctCountsS s_l6Counts s_l6Counts_e).cons 153 ctSumsS s_l6Sums s_l6Sums_e
set_option maxHeartbeats 8000000 in
theorem s_specCoreOk : Sound Tryz.prog 69 ctCoreOk := by
  have ke := s_specCoreOk_K.env []
  have kl : Lives s_specCoreOk_lv := trivial
  refine sound_intro (E := ⟨ti, s_specCoreOk_K.Γ, []⟩) ke Tryz.func69 Tryz.ntmps69 rfl (rs := [.tmp 2]) rfl ?_
  intro args os hp
  unfold ctCoreOk at hp ⊢
  dsimp only at hp ⊢
  split at hp
  · rename_i txg cs es ps dirty zs logn
    refine ⟨by simp, fun φ0 w0 => ?_⟩
    obtain ⟨⟨h1, h2, h3, h4⟩, hsm⟩ : (Co.mk txg cs es ps dirty zs logn).fit := hp
    simp only at h1 h2 h3 h4 hsm
    have hfs := frame_small hsm
    have hfl := frame_len cs
    refine goh trivial ?_
    refine W_cnd ?_ ?_ <;> (try simp only [cnd_r]) <;> intro hc
    · have e : (Co.mk txg cs es ps dirty zs logn).ok = false := Co.ok_false.2 fun h => by
        have h1 := h.txg
        have h2 := ddtB_true.2 h.ddt
        have h3 := h.parts
        have h4 := h.logn
        have h5 := safeB_true.2 h.safe
        simp only at h1 h2 h3 h4 h5
        rcases hc with (((((hc | hc) | hc) | hc) | hc) | hc) | hc
        · omega
        · omega
        · rw [h2] at hc; cases hc
        · omega
        · rw [h5] at hc; cases hc
        · omega
        · omega
      refine goh trivial ?_
      exact finh [] e
    · obtain ⟨⟨⟨⟨⟨⟨k1, k1b⟩, k2⟩, k3⟩, hS⟩, k5⟩, k5b⟩ := hc
      have k2 : ddtB es = true := by simpa using k2
      have hS : safeB zs = true := by simpa using hS
      have hD := ddtB_true.1 k2
      have hasc := hD.asc
      have hes := hD.few
      refine goh trivial ?_
      refine W_for cs.length (fun i => ∀ j, j < i → csetB (cs.getD j ET.cset.dflt) = true) (fun i => ⟨[(1, .one (.ptr 0 0)), (3, vi i)], [some (obCo txg cs es ps dirty zs logn)], []⟩) [some 0] (leh trivial) (by omega) fun i hi hb => ?_
      refine goh trivial ?_
      refine W_cnd ?_ ?_ <;> (try simp only [cnd_r]) <;> intro hlt
      · have hs := hsm i
        refine goh trivial ?_
        refine W_cnd ?_ ?_ <;> (try simp only [cnd_r]) <;> intro hx
        · have e : (Co.mk txg cs es ps dirty zs logn).ok = false := Co.ok_false.2 fun h => by
            have h1 := h.sets
            rw [List.any_eq_false] at h1
            have h2 := h1 (cs.getD i ET.cset.dflt) (by simp [show i < cs.length by omega])
            unfold csetBad at h2
            rw [hx] at h2
            simp at h2
          refine goh trivial ?_
          exact finh [] e
        · refine goh trivial ?_
          exact ⟨[some 0], by omega, leh trivial, fun j hj => by
            rcases Nat.lt_succ_iff_lt_or_eq.1 hj with h | rfl
            · exact hb j h
            · exact hx⟩
      · have hA : cs.any csetBad = false := by
          rw [List.any_eq_false]
          intro s hs
          obtain ⟨j, hj, rfl⟩ := List.getElem_of_mem hs
          have h1 := hb j (by omega)
          rw [show cs.getD j ET.cset.dflt = cs[j] by simp [hj]] at h1
          unfold csetBad
          rw [h1]; decide
        clear hb hlt hi
        refine goh trivial ?_
        refine W_for ps.length (fun i => ∀ j, j < i → partBad (ps.getD j ET.ptr.dflt) = false) (fun i => ⟨[(1, .one (.ptr 0 0)), (4, vi i)], [some (obCo txg cs es ps dirty zs logn)], []⟩) [some 0] (leh trivial) (by omega) fun i hi hb => ?_
        refine goh trivial ?_
        refine W_cnd ?_ ?_ <;> (try simp only [cnd_r]) <;> intro hlt
        · refine goh trivial ?_
          refine W_cnd ?_ ?_ <;> (try simp only [cnd_r]) <;> intro hx
          · have e : (Co.mk txg cs es ps dirty zs logn).ok = false := Co.ok_false.2 fun h => by
              have h1 := h.parts.2
              rw [List.any_eq_false] at h1
              have h2 := h1 (ps.getD i ET.ptr.dflt) (by simp [show i < ps.length by omega])
              unfold partBad realB at h2
              rcases hx with hx | hx
              · rw [hx] at h2; simp at h2
              · rw [hx] at h2; simp at h2
            refine goh trivial ?_
            exact finh [] e
          · refine goh trivial ?_
            exact ⟨[some 0], by omega, leh trivial, fun j hj => by
              rcases Nat.lt_succ_iff_lt_or_eq.1 hj with h | rfl
              · exact hb j h
              · have x1 : ptrOkB (ps.getD j ET.ptr.dflt) = true := (Bool.not_eq_false _).mp hx.1
                have x2 := hx.2
                unfold partBad realB
                rw [x1, x2]; rfl⟩
        · have k4 : ps.any partBad = false := by
            rw [List.any_eq_false]
            intro s hs
            obtain ⟨j, hj, rfl⟩ := List.getElem_of_mem hs
            have h1 := hb j (by omega)
            rw [show ps.getD j ET.ptr.dflt = ps[j] by simp [hj]] at h1
            rw [h1]; decide
          have e := Co.ok_eq (c := ⟨txg, cs, es, ps, dirty, zs, logn⟩) (by simp only; omega) k2 (by simp only; omega) k4 (by simp only; omega) hS
          simp only at e
          rw [hA, counts_eq hD hA] at e
          refine goh trivial ?_
          refine ⟨by (simp only [go_sem, e, ↓reduceIte, reduceCtorEq, Nat.reduceAdd, Nat.reduceLT, Nat.reduceLeDiff, Nat.reduceEqDiff]) <;> trivial, [], ?_⟩
          all_goals try simp only [go_sem, e, inj_r, ↓reduceIte, reduceCtorEq, Nat.reduceAdd, Nat.reduceLT, Nat.reduceLeDiff, Nat.reduceEqDiff, Int.reduceEq]
          all_goals (repeat' refine And.intro ?_ ?_) <;> try exact shut7
          cases bookB (frameOf cs) <;> cases countsS (refsP cs) es <;> rfl
  · simp [no, ifp] at hp
theorem pool_ok1 (x y : Bool) (n : Nat) : (if (if x = true then y else false) = true then decide ((n : Int) > 13) else false) = (x && (decide (13 < n) && y)) := by
  rw [show decide ((n : Int) > 13) = decide (13 < n) from decide_eq_decide.2 (by omega)]
  cases x <;> cases y <;> simp
theorem pool_ok2 (x y : Bool) (n : Nat) : (if (if x = true then decide ((n : Int) > 13) else false) = true then y else false) = (x && (decide (13 < n) && y)) := by
  rw [show decide ((n : Int) > 13) = decide (13 < n) from decide_eq_decide.2 (by omega)]
  cases x <;> cases y <;> simp
@[go_sem] noncomputable def ctCommitOk : Ct := ⟨false, [[some .str, some .str, some .late], [none, some .cset, some .ent, some .ptr, none, some .int, none]], fun args os => match args, os with
  | [.agg [.isl .str a, .isl .str b, .isl .late l], .agg [.val (.int .i64 txg), .isl .cset cs, .isl .ent es, .isl .ptr ps, .val (.bool dirty), .isl .int zs, .val (.int .i64 logn)]], [] => ifp ((Dk.mk a b l).small ∧ (Co.mk txg cs es ps dirty zs logn).fit) (vb (poolB ⟨⟨a, b, l⟩, ⟨txg, cs, es, ps, dirty, zs, logn⟩, true⟩))
  | _, _ => no⟩
theorem s_commitOk_e : EnterOk Tryz.prog 71 := ⟨_, Tryz.func71, rfl, by decide⟩
@[go_sem] def s_commitOk_lv : List (List Nat) := [[2, 3], [4]]
@[go_sem] noncomputable def s_commitOk_K : Known := ((Known.nil).cons 80 ctDiskOk s_diskOk s_diskOk_e).cons 157 ctCoreOk s_coreOk s_coreOk_e
set_option maxHeartbeats 8000000 in
theorem s_commitOk : Sound Tryz.prog 71 ctCommitOk := by
  have ke := s_commitOk_K.env []
  have kl : Lives s_commitOk_lv := trivial
  refine sound_intro (E := ⟨ti, s_commitOk_K.Γ, []⟩) ke Tryz.func71 Tryz.ntmps71 rfl (rs := [.tmp 4]) rfl ?_
  intro args os hp
  unfold ctCommitOk at hp ⊢
  dsimp only at hp ⊢
  split at hp
  · rename_i a b l txg cs es ps dirty zs logn
    refine ⟨by simp, fun φ0 w0 => ?_⟩
    obtain ⟨⟨h1, h2, h3⟩, hf⟩ : (Dk.mk a b l).small ∧ (Co.mk txg cs es ps dirty zs logn).fit := hp
    refine goh trivial ?_
    refine ⟨by (simp only [go_sem, poolB, ↓reduceIte, reduceCtorEq, Nat.reduceAdd, Nat.reduceLT, Nat.reduceLeDiff, Nat.reduceEqDiff]) <;> trivial, [], ?_⟩
    all_goals try simp only [go_sem, poolB, inj_r, ↓reduceIte, reduceCtorEq, Nat.reduceAdd, Nat.reduceLT, Nat.reduceLeDiff, Nat.reduceEqDiff, Int.reduceEq]
    all_goals (repeat' refine And.intro ?_ ?_) <;> try exact shut7
    exact pool_ok1 _ _ _
  · simp [no, ifp] at hp
@[go_sem] noncomputable def ctPoolOk : Ct := ⟨false, [[some .str, some .str, some .late, none, some .cset, some .ent, some .ptr, none, some .int, none, none]], fun args os => match args, os with
  | [.agg [.isl .str a, .isl .str b, .isl .late l, .val (.int .i64 txg), .isl .cset cs, .isl .ent es, .isl .ptr ps, .val (.bool dirty), .isl .int zs, .val (.int .i64 logn), .val (.bool up)]], [] => ifp ((Dk.mk a b l).small ∧ (Co.mk txg cs es ps dirty zs logn).fit) (vb (poolB ⟨⟨a, b, l⟩, ⟨txg, cs, es, ps, dirty, zs, logn⟩, up⟩))
  | _, _ => no⟩
theorem s_poolOk_e : EnterOk Tryz.prog 16 := ⟨_, Tryz.func16, rfl, by decide⟩
@[go_sem] def s_poolOk_lv : List (List Nat) := [[1], [2]]
@[go_sem] noncomputable def s_poolOk_K : Known := (Known.nil).cons 71 ctCommitOk s_commitOk s_commitOk_e
set_option maxHeartbeats 8000000 in
theorem s_poolOk : Sound Tryz.prog 16 ctPoolOk := by
  have ke := s_poolOk_K.env []
  have kl : Lives s_poolOk_lv := trivial
  refine sound_intro (E := ⟨ti, s_poolOk_K.Γ, []⟩) ke Tryz.func16 Tryz.ntmps16 rfl (rs := [.tmp 2]) rfl ?_
  intro args os hp
  unfold ctPoolOk at hp ⊢
  dsimp only at hp ⊢
  split at hp
  · rename_i a b l txg cs es ps dirty zs logn up
    refine ⟨by simp, fun φ0 w0 => ?_⟩
    obtain ⟨⟨h1, h2, h3⟩, hf⟩ : (Dk.mk a b l).small ∧ (Co.mk txg cs es ps dirty zs logn).fit := hp
    have e : poolB ⟨⟨a, b, l⟩, ⟨txg, cs, es, ps, dirty, zs, logn⟩, true⟩ = poolB ⟨⟨a, b, l⟩, ⟨txg, cs, es, ps, dirty, zs, logn⟩, up⟩ := rfl
    refine goh trivial ?_
    exact finh [] e
  · simp [no, ifp] at hp
theorem s_specPoolOk_e : EnterOk Tryz.prog 14 := ⟨_, Tryz.func14, rfl, by decide⟩
@[go_sem] def s_specPoolOk_lv : List (List Nat) := [[1], [2]]
@[go_sem] noncomputable def s_specPoolOk_K : Known := ((Known.nil).cons 28 ctDiskOk s_specDiskOk s_specDiskOk_e).cons 69 ctCoreOk s_specCoreOk s_specCoreOk_e
set_option maxHeartbeats 8000000 in
theorem s_specPoolOk : Sound Tryz.prog 14 ctPoolOk := by
  have ke := s_specPoolOk_K.env []
  have kl : Lives s_specPoolOk_lv := trivial
  refine sound_intro (E := ⟨ti, s_specPoolOk_K.Γ, []⟩) ke Tryz.func14 Tryz.ntmps14 rfl (rs := [.tmp 2]) rfl ?_
  intro args os hp
  unfold ctPoolOk at hp ⊢
  dsimp only at hp ⊢
  split at hp
  · rename_i a b l txg cs es ps dirty zs logn up
    refine ⟨by simp, fun φ0 w0 => ?_⟩
    obtain ⟨⟨h1, h2, h3⟩, hf⟩ : (Dk.mk a b l).small ∧ (Co.mk txg cs es ps dirty zs logn).fit := hp
    refine goh trivial ?_
    refine ⟨by (simp only [go_sem, poolB, ↓reduceIte, reduceCtorEq, Nat.reduceAdd, Nat.reduceLT, Nat.reduceLeDiff, Nat.reduceEqDiff]) <;> trivial, [], ?_⟩
    all_goals try simp only [go_sem, poolB, inj_r, ↓reduceIte, reduceCtorEq, Nat.reduceAdd, Nat.reduceLT, Nat.reduceLeDiff, Nat.reduceEqDiff, Int.reduceEq]
    all_goals (repeat' refine And.intro ?_ ?_) <;> try exact shut7
    exact pool_ok2 _ _ _
  · simp [no, ifp] at hp
end Go.Proofs.YtjedcphhajlnoaaGreatDoor
/- Functions: a block of a store. -/
namespace Go.Proofs.YtjedcphhajlnoaaGreatDoor
open Go.RowKit

@[go_sem] def ctIsBlock : Ct := ⟨false, [], fun args os => match args, os with
  | [.one (.val (.int .i64 i))], [] => is (vb (decide (0 ≤ i) && decide (i ≤ 7)))
  | _, _ => no⟩
theorem s_isBlock_e : EnterOk Tryz.prog 76 := ⟨_, Tryz.func76, rfl, by decide⟩
@[go_sem] def s_isBlock_lv : List (List Nat) := [[0], [2]]
@[go_sem] noncomputable def s_isBlock_K : Known := (Known.nil).cons 89 ctWithin s_within s_within_e
set_option maxHeartbeats 8000000 in
theorem s_isBlock : Sound Tryz.prog 76 ctIsBlock := by
  have ke := s_isBlock_K.env []
  have kl : Lives s_isBlock_lv := trivial
  refine sound_intro (E := ⟨ti, s_isBlock_K.Γ, []⟩) ke Tryz.func76 Tryz.ntmps76 rfl (rs := [.tmp 2]) rfl ?_
  intro args os hp
  unfold ctIsBlock at hp ⊢
  dsimp only at hp ⊢
  split at hp
  · rename_i i
    refine ⟨by simp, fun φ0 w0 => ?_⟩
    refine goh trivial ?_
    exact finh [] trivial
  · simp [no, is] at hp
@[go_sem] noncomputable def ctGetName : Ct := ⟨true, [], fun args os => match args, os with
  | [.agg cs, .one (.ptr 0 0)], [.cells [.val (.string name)]] => (match csetOf cs with | some s => is (vb (same s.name name)) | none => no)
  | _, _ => no⟩
theorem s_getName_e : EnterOk Tryz.prog 78 := ⟨_, Tryz.func78, rfl, by decide⟩
@[go_sem] def s_getName_lv : List (List Nat) := [[1, 2], [3]]
@[go_sem] noncomputable def s_getName_K : Known := Known.nil
set_option maxHeartbeats 8000000 in
theorem s_getName : Sound Tryz.prog 78 ctGetName := by
  have ke := s_getName_K.env []
  have kl : Lives s_getName_lv := trivial
  refine sound_intro (E := ⟨ti, s_getName_K.Γ, []⟩) ke Tryz.func78 Tryz.ntmps78 rfl (rs := [.tmp 3]) rfl ?_
  intro args os hp
  unfold ctGetName at hp ⊢
  dsimp only at hp ⊢
  split at hp
  · rename_i cs name
    split at hp
    · rename_i s hs
      obtain rfl := csetOf_some hs
      clear hs
      refine ⟨by simp, fun φ0 w0 => ?_⟩
      refine goh trivial ?_
      exact finh [some 0] trivial
    · simp [no] at hp
  · simp [no] at hp
noncomputable def atC (cs : List CSet) (name : ByteArray) : Int := firstAt (fun s => same s.name name) cs
@[go_sem] noncomputable def ctIxName : Ct := ⟨true, [[some .cset]], fun args os => match args, os with
  | [.one (.isl .cset xs), .one (.fn 78 [(0, 0)])], [.cells [.val (.string name)]] => ifp (xs.length ≤ 4000000) (vi (atC xs name))
  | _, _ => no⟩
theorem s_ixName_e : EnterOk Tryz.prog 77 := ⟨_, Tryz.func77, rfl, by decide⟩
@[go_sem] def s_ixName_lv : List (List Nat) := [[0, 1], [0, 1, 7, 8], [0, 1, 7, 8, 9], [0, 1, 5, 7, 8], [0, 1, 5, 7, 8, 16], [4], [0, 1, 7, 8], [4]]
@[go_sem] noncomputable def s_ixName_K : Known := (Known.nil).cons 78 ctGetName s_getName s_getName_e
set_option maxHeartbeats 8000000 in
theorem s_ixName : Sound Tryz.prog 77 ctIxName := by
  have ke := s_ixName_K.env []
  have kl : Lives s_ixName_lv := trivial
  refine sound_intro (E := ⟨ti, s_ixName_K.Γ, []⟩) ke Tryz.func77 Tryz.ntmps77 rfl (rs := [.tmp 4]) rfl ?_
  intro args os hp
  unfold ctIxName at hp ⊢
  dsimp only at hp ⊢
  split at hp
  · rename_i xs name
    refine ⟨by simp, fun φ0 w0 => ?_⟩
    have hlen : xs.length ≤ 4000000 := hp
    refine goh trivial ?_
    refine W_for xs.length (fun i => ∀ j, j < i → same (xs.getD j ET.cset.dflt).name name = false) (fun i => ⟨[(8, vi i), (7, vi xs.length), (0, .one (.isl .cset xs)), (1, .one (.fn 78 [(0, 0)]))], [some (.cells [.val (.string name)])], []⟩) [some 0] (leh trivial) (by omega) fun i hi hb => ?_
    refine goh trivial ?_
    refine W_cnd ?_ ?_ <;> (try simp only [cnd_r]) <;> intro hlt
    · refine goh trivial ?_
      refine W_cond _ (by exact rfl) (by exact trivial) ?_ ?_ <;> intro hl
      · have e : atC xs name = i := firstAt_some (d := ET.cset.dflt) (by omega) hb hl
        refine goh trivial ?_
        exact finh [some 0] e
      · refine goh trivial ?_
        exact ⟨[some 0], by omega, leh trivial, fun j hj => by
          rcases Nat.lt_succ_iff_lt_or_eq.1 hj with h | rfl
          · first | exact hb j h | exact same_false.1 (hb j h)
          · first | exact hl | exact same_false.1 hl⟩
    · have e : atC xs name = -1 := firstAt_none (d := ET.cset.dflt) fun j hj => hb j (by omega)
      refine goh trivial ?_
      exact finh [some 0] e
  · simp [no, ifp] at hp
theorem atC_frame (cs : List CSet) (name : ByteArray) : atB (frameOf cs) name = atC cs name := by
  unfold atB atC firstAt frameOf
  rw [List.findIdx?_map]
  rfl
theorem atC_lt (xs : List CSet) (name : ByteArray) : atC xs name < xs.length := by
  have h := atB_lt (frameOf xs) name
  rw [atC_frame, frame_len] at h
  exact h
/-- What is read of a store. -/
noncomputable def poolGet (p : Pl) (name : ByteArray) (i : Int) : ByteArray × Int :=
  if poolB p = true ∧ 0 ≤ i ∧ i ≤ 7 then
    if p.up = true then
      if thereB (frameOf p.core.sets) name = true then
        if (blkRead p.disk ((p.core.sets.getD (lowN (frameOf p.core.sets) name) ET.cset.dflt).map.get i.toNat)).2 = 2 then (⟨#[]⟩, 8)
        else ((blkRead p.disk ((p.core.sets.getD (lowN (frameOf p.core.sets) name) ET.cset.dflt).map.get i.toNat)).1, 0)
      else (⟨#[]⟩, 1)
    else (⟨#[]⟩, 9)
  else (⟨#[]⟩, 5)
@[go_sem] noncomputable def ctPoolGet : Ct := ⟨false, [[some .str, some .str, some .late, none, some .cset, some .ent, some .ptr, none, some .int, none, none]], fun args os => match args, os with
  | [.agg [.isl .str a, .isl .str b, .isl .late l, .val (.int .i64 txg), .isl .cset cs, .isl .ent es, .isl .ptr ps, .val (.bool dirty), .isl .int zs, .val (.int .i64 logn), .val (.bool up)], .one (.val (.string name)), .one (.val (.int .i64 i))], [] => ifp ((Dk.mk a b l).small ∧ (Co.mk txg cs es ps dirty zs logn).fit) (.tup [vs (poolGet ⟨⟨a, b, l⟩, ⟨txg, cs, es, ps, dirty, zs, logn⟩, up⟩ name i).1, vi (poolGet ⟨⟨a, b, l⟩, ⟨txg, cs, es, ps, dirty, zs, logn⟩, up⟩ name i).2])
  | _, _ => no⟩
theorem poolB_parts {p : Pl} (h : poolB p = true) : p.disk.ok = true ∧ 13 < p.disk.a.length ∧ CoreP p.core := by
  unfold poolB at h
  simp only [Bool.and_eq_true, decide_eq_true_eq] at h
  exact ⟨h.1, h.2.1, Co.ok_true.1 h.2.2⟩
theorem s_poolGet_e : EnterOk Tryz.prog 19 := ⟨_, Tryz.func19, rfl, by decide⟩
@[go_sem] def s_poolGet_lv : List (List Nat) := [[2, 3, 4], [2, 3, 4, 11], [6, 7], [2, 3, 4, 20], [6, 7], [2, 3, 8], [2, 3, 8, 30], [6, 7], [9, 10], [9, 47], [6, 7], [6, 7]]
@[go_sem] noncomputable def s_poolGet_K : Known := (((((Known.nil).cons 16 ctPoolOk s_poolOk s_poolOk_e).cons 76 ctIsBlock s_isBlock s_isBlock_e).cons 77 ctIxName s_ixName s_ixName_e).cons 29 ctBlkRead s_blkRead s_blkRead_e).cons 78 ctGetName s_getName s_getName_e
set_option maxHeartbeats 8000000 in
theorem s_poolGet : Sound Tryz.prog 19 ctPoolGet := by
  have ke := s_poolGet_K.env []
  have kl : Lives s_poolGet_lv := trivial
  refine sound_intro (E := ⟨ti, s_poolGet_K.Γ, []⟩) ke Tryz.func19 Tryz.ntmps19 rfl (rs := [.tmp 6, .tmp 7]) rfl ?_
  intro args os hp
  unfold ctPoolGet at hp ⊢
  dsimp only at hp ⊢
  split at hp
  · rename_i a b l txg cs es ps dirty zs logn up name i
    refine ⟨by simp, fun φ0 w0 => ?_⟩
    obtain ⟨⟨h1, h2, h3⟩, hf⟩ : (Dk.mk a b l).small ∧ (Co.mk txg cs es ps dirty zs logn).fit := hp
    have hlen := hf.small.1
    simp only at hlen
    have hd := poolGet.eq_1 ⟨⟨a, b, l⟩, ⟨txg, cs, es, ps, dirty, zs, logn⟩, up⟩ name i
    simp only at hd
    refine goh trivial ?_
    refine W_cnd ?_ ?_ <;> (try simp only [cnd_r]) <;> intro hc
    · rw [if_neg (by rintro ⟨g1, g2, g3⟩; rcases hc with hc | hc | hc; (rw [g1] at hc; cases hc); exact hc g2; exact hc g3)] at hd
      refine goh trivial ?_
      exact finh [] hd
    · have hok : poolB ⟨⟨a, b, l⟩, ⟨txg, cs, es, ps, dirty, zs, logn⟩, up⟩ = true := by simpa using hc.1
      rw [if_pos ⟨hok, hc.2.1, hc.2.2⟩] at hd
      obtain ⟨hdk, -, hC⟩ := poolB_parts hok
      have hso := book_sorted (bookB_true.1 hC.book)
      simp only at hso
      refine goh trivial ?_
      refine W_cnd ?_ ?_ <;> (try simp only [cnd_r]) <;> intro hu
      · rw [if_neg (by rw [hu]; decide)] at hd
        refine goh trivial ?_
        exact finh [] hd
      · rw [if_pos hu] at hd
        obtain ⟨l1, l2⟩ := at_low hso name
        rw [atC_frame] at l1 l2
        have hcl := atC_lt cs name
        have hfl := frame_len cs
        cases ht : thereB (frameOf cs) name with
        | false =>
          have h0 := l2 ht
          rw [ht, if_neg (by decide)] at hd
          refine goh trivial ?_
          refine W_cnd ?_ ?_ <;> (try simp only [cnd_r]) <;> intro hk
          · refine goh trivial ?_
            exact finh [] hd
          · omega
        | true =>
          have h0 := l1 ht
          rw [ht, if_pos rfl] at hd
          have hlow := (there_lt ht).1
          rw [hfl] at hlow
          obtain ⟨k, hk⟩ : ∃ k, lowN (frameOf cs) name = k := ⟨_, rfl⟩
          rw [hk] at h0 hd hlow
          obtain ⟨j, rfl⟩ : ∃ j : Nat, i = j := ⟨i.toNat, by omega⟩
          rw [Int.toNat_natCast] at hd
          have hj8 : j < 8 := by omega
          refine goh h0 ?_
          refine W_cnd ?_ ?_ <;> (try simp only [cnd_r]) <;> intro hneg
          · omega
          · rcases (show j = 0 ∨ j = 1 ∨ j = 2 ∨ j = 3 ∨ j = 4 ∨ j = 5 ∨ j = 6 ∨ j = 7 by omega) with hc8 | hc8 | hc8 | hc8 | hc8 | hc8 | hc8 | hc8
            all_goals
              subst hc8
              simp only [Eight.get, Int.cast_ofNat_Int] at hd
              refine goh h0 ?_
              refine W_cnd ?_ ?_ <;> (try simp only [cnd_r]) <;> intro hbad
              · rw [if_pos hbad] at hd
                refine goh trivial ?_
                exact finh [] hd
              · simp only [beq_eq_false_iff_ne, ne_eq] at hbad
                rw [if_neg hbad] at hd
                refine goh trivial ?_
                exact finh [] hd
  · simp [no, ifp] at hp
theorem s_specPoolGet_e : EnterOk Tryz.prog 18 := ⟨_, Tryz.func18, rfl, by decide⟩
@[go_sem] def s_specPoolGet_lv : List (List Nat) := [[1, 2, 3], [1, 2, 3, 12], [6, 7], [1, 2, 3, 24], [6, 7], [2, 3, 8, 9], [2, 3, 8, 37], [6, 7], [10, 11], [10, 54], [6, 7], [6, 7]]
@[go_sem] noncomputable def s_specPoolGet_K : Known := ((((Known.nil).cons 14 ctPoolOk s_specPoolOk s_specPoolOk_e).cons 74 ctFrame s_l6Names s_l6Names_e).cons 73 ctAt s_l4At s_l4At_e).cons 75 ctBlkRead s_specBlkRead s_specBlkRead_e
set_option maxHeartbeats 8000000 in
theorem s_specPoolGet : Sound Tryz.prog 18 ctPoolGet := by
  have ke := s_specPoolGet_K.env []
  have kl : Lives s_specPoolGet_lv := trivial
  refine sound_intro (E := ⟨ti, s_specPoolGet_K.Γ, []⟩) ke Tryz.func18 Tryz.ntmps18 rfl (rs := [.tmp 6, .tmp 7]) rfl ?_
  intro args os hp
  unfold ctPoolGet at hp ⊢
  dsimp only at hp ⊢
  split at hp
  · rename_i a b l txg cs es ps dirty zs logn up name i
    refine ⟨by simp, fun φ0 w0 => ?_⟩
    obtain ⟨⟨h1, h2, h3⟩, hf⟩ : (Dk.mk a b l).small ∧ (Co.mk txg cs es ps dirty zs logn).fit := hp
    have hlen := hf.small.1
    simp only at hlen
    have hfl := frame_len cs
    have hd := poolGet.eq_1 ⟨⟨a, b, l⟩, ⟨txg, cs, es, ps, dirty, zs, logn⟩, up⟩ name i
    simp only at hd
    refine goh trivial ?_
    refine W_cnd ?_ ?_ <;> (try simp only [cnd_r]) <;> intro hc
    · rw [if_neg (by rintro ⟨g1, g2, g3⟩; rcases hc with (hc | hc) | hc; (rw [g1] at hc; cases hc); omega; omega)] at hd
      refine goh trivial ?_
      exact finh [] hd
    · have hok : poolB ⟨⟨a, b, l⟩, ⟨txg, cs, es, ps, dirty, zs, logn⟩, up⟩ = true := by simpa using hc.1.1
      rw [if_pos ⟨hok, by omega, by omega⟩] at hd
      refine goh trivial ?_
      refine W_cnd ?_ ?_ <;> (try simp only [cnd_r]) <;> intro hu
      · rw [if_neg (by rw [hu]; decide)] at hd
        refine goh trivial ?_
        exact finh [] hd
      · rw [if_pos hu] at hd
        cases ht : thereB (frameOf cs) name with
        | false =>
          rw [ht, if_neg (by decide)] at hd
          refine goh ht ?_
          refine W_cnd ?_ ?_ <;> intro hlit <;> try (cases hlit; done)
          refine goh trivial ?_
          exact finh [] hd
        | true =>
          rw [ht, if_pos rfl] at hd
          have hlow := (there_lt ht).1
          rw [hfl] at hlow
          obtain ⟨j, rfl⟩ : ∃ j : Nat, i = j := ⟨i.toNat, by omega⟩
          rw [Int.toNat_natCast] at hd
          have hj8 : j < 8 := by omega
          refine goh ht ?_
          refine W_cnd ?_ ?_ <;> intro hlit <;> try (cases hlit; done)
          rcases (show j = 0 ∨ j = 1 ∨ j = 2 ∨ j = 3 ∨ j = 4 ∨ j = 5 ∨ j = 6 ∨ j = 7 by omega) with hc8 | hc8 | hc8 | hc8 | hc8 | hc8 | hc8 | hc8
          all_goals
            subst hc8
            simp only [Eight.get, Int.cast_ofNat_Int] at hd
            refine goh trivial ?_
            refine W_cnd ?_ ?_ <;> (try simp only [cnd_r]) <;> intro hbad
            · rw [if_pos hbad] at hd
              refine goh trivial ?_
              exact finh [] hd
            · simp only [beq_eq_false_iff_ne, ne_eq] at hbad
              rw [if_neg hbad] at hd
              refine goh trivial ?_
              exact finh [] hd
  · simp [no, ifp] at hp
end Go.Proofs.YtjedcphhajlnoaaGreatDoor
/- Functions: a record's text. -/
namespace Go.Proofs.YtjedcphhajlnoaaGreatDoor
open Go.RowKit

@[go_sem] noncomputable def ctLogText : Ct := ⟨false, [], fun args os => match args, os with
  | [.agg [.val (.int .i64 t), .val (.int .i64 s), .val (.int .i64 k), .val (.string a), .val (.string b), .val (.int .i64 i), .val (.string x)]], [] => ifp (a.size ≤ 9223372036854775807) (vs (logT ⟨t, s, ⟨k, a, b, i, x⟩⟩))
  | _, _ => no⟩
theorem joinV_five (c : UInt8) (x y z u v : ByteArray) : joinV ⟨#[c]⟩ [x, y, z, u, v] = x ++ ⟨#[c]⟩ ++ y ++ ⟨#[c]⟩ ++ z ++ ⟨#[c]⟩ ++ u ++ ⟨#[c]⟩ ++ v := by
  unfold joinV
  rw [lib_join]
  show bytesL (x.data.toList ++ [c] ++ (y.data.toList ++ [c] ++ (z.data.toList ++ [c] ++ (u.data.toList ++ [c] ++ v.data.toList)))) = _
  simp only [bytesL_app, bytesL_data]
  have e : bytesL [c] = ⟨#[c]⟩ := rfl
  rw [e]
  simp only [ByteArray.append_assoc]
theorem joinV_two (c : UInt8) (x y : ByteArray) : joinV ⟨#[c]⟩ [x, y] = x ++ ⟨#[c]⟩ ++ y := by
  unfold joinV
  rw [lib_join]
  show bytesL (x.data.toList ++ [c] ++ y.data.toList) = _
  simp only [bytesL_app, bytesL_data]
  rfl
theorem hexV_nil {x : ByteArray} : same (hexV x) ⟨#[]⟩ = decide (x.size = 0) := by
  rw [Bool.eq_iff_iff, same_true, decide_eq_true_eq]
  have h := hexV_size x
  constructor
  · intro e; rw [e] at h; have : (⟨#[]⟩ : ByteArray).size = 0 := rfl; omega
  · intro e
    apply ByteArray.ext
    exact Array.eq_empty_of_size_eq_zero (show (hexV x).size = 0 by omega)
theorem s_logText_e : EnterOk Tryz.prog 57 := ⟨_, Tryz.func57, rfl, by decide⟩
@[go_sem] def s_logText_lv : List (List Nat) := [[1], [1, 3], [1, 3, 45], [2], [3, 4], [3, 4, 5], [3, 4, 5, 56], [3, 4, 5], [2]]
@[go_sem] noncomputable def s_logText_K : Known := ((((((((Known.nil).cons 89 ctWithin s_within s_within_e).cons 127 ctName s_bookName s_bookName_e).cons 76 ctIsBlock s_isBlock s_isBlock_e).cons 92 ctPoints s_points s_points_e).cons 128 ctHex s_hex s_hex_e).cons 100 ctItoa s_itoa s_itoa_e).cons 129 ctJoin s_join s_join_e).cons 101 ctSeal s_seal s_seal_e
set_option maxHeartbeats 8000000 in
theorem s_logText : Sound Tryz.prog 57 ctLogText := by
  have ke := s_logText_K.env []
  have kl : Lives s_logText_lv := trivial
  refine sound_intro (E := ⟨ti, s_logText_K.Γ, []⟩) ke Tryz.func57 Tryz.ntmps57 rfl (rs := [.tmp 2]) rfl ?_
  intro args os hp
  unfold ctLogText at hp ⊢
  dsimp only at hp ⊢
  split at hp
  · rename_i t s k a b i x
    refine ⟨by simp, fun φ0 w0 => ?_⟩
    have hna : a.size ≤ 9223372036854775807 := hp
    clear hp
    have nt : (!true) = false := rfl
    have nf : (!false) = true := rfl
    by_cases pc1 : 1 ≤ t ∧ t ≤ 1000000
    rotate_left
    · have e := logT_no (r := ⟨t, s, ⟨k, a, b, i, x⟩⟩) (fun h => pc1 ⟨h.t0, h.t1⟩)
      have c1 : (decide (1 ≤ t) && decide (t ≤ 1000000)) = false := by rw [Bool.and_eq_false_iff, decide_eq_false_iff_not, decide_eq_false_iff_not]; omega
      refine goh (And.intro c1 (And.intro hna (And.intro nt nf))) ?_
      refine W_cnd ?_ ?_ <;> intro hlit <;> try (cases hlit; done)
      refine goh trivial ?_
      exact finh [] e
    have c1 : (decide (1 ≤ t) && decide (t ≤ 1000000)) = true := by simp; omega
    by_cases pc2 : 0 ≤ s ∧ s ≤ 7
    rotate_left
    · have e := logT_no (r := ⟨t, s, ⟨k, a, b, i, x⟩⟩) (fun h => pc2 ⟨h.s0, h.s1⟩)
      have c2 : (decide (0 ≤ s) && decide (s ≤ 7)) = false := by rw [Bool.and_eq_false_iff, decide_eq_false_iff_not, decide_eq_false_iff_not]; omega
      refine goh (And.intro c1 (And.intro c2 (And.intro hna (And.intro nt nf)))) ?_
      refine W_cnd ?_ ?_ <;> intro hlit <;> try (cases hlit; done)
      refine goh trivial ?_
      exact finh [] e
    have c2 : (decide (0 ≤ s) && decide (s ≤ 7)) = true := by simp; omega
    by_cases pc3 : k = 3
    rotate_left
    · have e := logT_no (r := ⟨t, s, ⟨k, a, b, i, x⟩⟩) (fun h => pc3 h.k)
      have c3 : (k != 3) = true := by simp [pc3]
      refine goh (And.intro c1 (And.intro c2 (And.intro c3 (And.intro hna (And.intro nt nf))))) ?_
      refine W_cnd ?_ ?_ <;> intro hlit <;> try (cases hlit; done)
      refine goh trivial ?_
      exact finh [] e
    have c3 : (k != 3) = false := by simp [pc3]
    by_cases pc4 : nameB a = true
    rotate_left
    · have e := logT_no (r := ⟨t, s, ⟨k, a, b, i, x⟩⟩) (fun h => pc4 h.a)
      have c4 : nameB a = false := by simpa using pc4
      refine goh (And.intro c1 (And.intro c2 (And.intro c3 (And.intro c4 (And.intro hna (And.intro nt nf)))))) ?_
      refine W_cnd ?_ ?_ <;> intro hlit <;> try (cases hlit; done)
      refine goh trivial ?_
      exact finh [] e
    have c4 : nameB a = true := pc4
    by_cases pc5 : b = ⟨#[]⟩
    rotate_left
    · have e := logT_no (r := ⟨t, s, ⟨k, a, b, i, x⟩⟩) (fun h => pc5 h.b)
      have c5 : same b ⟨#[]⟩ = false := same_false.2 pc5
      refine goh (And.intro c1 (And.intro c2 (And.intro c3 (And.intro c4 (And.intro c5 (And.intro hna (And.intro nt nf))))))) ?_
      refine W_cnd ?_ ?_ <;> intro hlit <;> try (cases hlit; done)
      refine goh trivial ?_
      exact finh [] e
    have c5 : same b ⟨#[]⟩ = true := same_true.2 pc5
    by_cases pc6 : 0 ≤ i ∧ i ≤ 7
    rotate_left
    · have e := logT_no (r := ⟨t, s, ⟨k, a, b, i, x⟩⟩) (fun h => pc6 ⟨h.i0, h.i1⟩)
      have c6 : (decide (0 ≤ i) && decide (i ≤ 7)) = false := by rw [Bool.and_eq_false_iff, decide_eq_false_iff_not, decide_eq_false_iff_not]; omega
      refine goh (And.intro c1 (And.intro c2 (And.intro c3 (And.intro c4 (And.intro c5 (And.intro c6 (And.intro hna (And.intro nt nf)))))))) ?_
      refine W_cnd ?_ ?_ <;> intro hlit <;> try (cases hlit; done)
      refine goh trivial ?_
      exact finh [] e
    have c6 : (decide (0 ≤ i) && decide (i ≤ 7)) = true := by simp; omega
    by_cases pc7 : x.size ≤ 24
    rotate_left
    · have e := logT_no (r := ⟨t, s, ⟨k, a, b, i, x⟩⟩) (fun h => pc7 h.x)
      have c7 : decide ((x.size : Int) > 24) = true := by simp; omega
      refine goh (And.intro c1 (And.intro c2 (And.intro c3 (And.intro c4 (And.intro c5 (And.intro c6 (And.intro c7 (And.intro hna (And.intro nt nf))))))))) ?_
      refine W_cnd ?_ ?_ <;> intro hlit <;> try (cases hlit; done)
      refine goh trivial ?_
      exact finh [] e
    have c7 : decide ((x.size : Int) > 24) = false := by simp; omega
    have hok : LogOk ⟨t, s, ⟨k, a, b, i, x⟩⟩ := ⟨pc1.1, pc1.2, pc2.1, pc2.2, pc3, pc4, pc5, pc6.1, pc6.2, pc7⟩
    have eT := logT_ok hok
    have hIs := logI_size hok
    have hin : ∀ j : Nat, -9223372036854775808 ≤ [t, s].getD j ET.int.dflt ∧ [t, s].getD j ET.int.dflt ≤ 9223372036854775807 := fun j => by
      have hd : ET.int.dflt = (0 : Int) := rfl
      have := hok.t0; have := hok.t1; have := hok.s0; have := hok.s1
      simp only at *
      match j with
      | 0 => simp; omega
      | 1 => simp; omega
      | j + 2 => simp [hd]
    have hi1 : -9223372036854775808 ≤ i ∧ i ≤ 9223372036854775807 := by have := hok.i0; have := hok.i1; simp only at *; omega
    have ht1 : -9223372036854775808 ≤ t ∧ t ≤ 9223372036854775807 := by have := hok.t0; have := hok.t1; simp only at *; omega
    have hs1 : -9223372036854775808 ≤ s ∧ s ≤ 9223372036854775807 := by have := hok.s0; have := hok.s1; simp only at *; omega
    have hx1 : x.size ≤ 1000000000 := by omega
    have hh := @hexV_nil x
    have eI : ∀ X, logX x = X → logI ⟨t, s, ⟨k, a, b, i, x⟩⟩ = joinV ⟨#[32]⟩ [pointsV [t, s], a, decS i, X, pointsV [t, s]] := fun X h => by rw [← h]; rfl
    refine goh (And.intro c1 (And.intro c2 (And.intro c3 (And.intro c4 (And.intro c5 (And.intro c6 (And.intro c7 (And.intro hna (And.intro nt nf))))))))) ?_
    refine W_cnd ?_ ?_ <;> intro hlit <;> try (cases hlit; done)
    by_cases h0 : x.size = 0
    · have eX : logX x = ⟨#[45]⟩ := by unfold logX; rw [if_pos h0]
      rw [decide_eq_true h0] at hh
      have eJ := eI _ eX
      rw [eJ] at eT hIs
      have hjn : (joinV ⟨#[32]⟩ [pointsV [t, s], a, decS i, ⟨#[45]⟩, pointsV [t, s]]).size ≤ 140737488355328 := by omega
      refine goh (And.intro hin (And.intro hi1 hh)) ?_
      refine W_cnd ?_ ?_ <;> intro hlit <;> try (cases hlit; done)
      refine goh (And.intro hin (And.intro hi1 (And.intro hh hjn))) ?_
      exact finh [] eT
    · have eX : logX x = hexV x := by unfold logX; rw [if_neg h0]
      rw [decide_eq_false h0] at hh
      have eJ := eI _ eX
      rw [eJ] at eT hIs
      have hjn : (joinV ⟨#[32]⟩ [pointsV [t, s], a, decS i, hexV x, pointsV [t, s]]).size ≤ 140737488355328 := by omega
      refine goh (And.intro hin (And.intro hi1 hh)) ?_
      refine W_cnd ?_ ?_ <;> intro hlit <;> try (cases hlit; done)
      refine goh (And.intro hin (And.intro hi1 (And.intro hh hjn))) ?_
      exact finh [] eT
  · simp [no, ifp] at hp
theorem s_specLogText_e : EnterOk Tryz.prog 59 := ⟨_, Tryz.func59, rfl, by decide⟩
@[go_sem] def s_specLogText_lv : List (List Nat) := [[1], [1, 3], [1, 3, 57], [2], [1, 3, 4], [1, 3, 4, 62], [1, 3, 4], [3, 4, 5], [2]]
@[go_sem] noncomputable def s_specLogText_K : Known := ((((Known.nil).cons 132 ctName s_specName s_specName_e).cons 133 ctHex s_specHex s_specHex_e).cons 103 ctDecV s_dec2 s_dec2_e).cons 102 ctSeal s_specSeal s_specSeal_e
set_option maxHeartbeats 8000000 in
theorem s_specLogText : Sound Tryz.prog 59 ctLogText := by
  have ke := s_specLogText_K.env []
  have kl : Lives s_specLogText_lv := trivial
  refine sound_intro (E := ⟨ti, s_specLogText_K.Γ, []⟩) ke Tryz.func59 Tryz.ntmps59 rfl (rs := [.tmp 2]) rfl ?_
  intro args os hp
  unfold ctLogText at hp ⊢
  dsimp only at hp ⊢
  split at hp
  · rename_i t s k a b i x
    refine ⟨by simp, fun φ0 w0 => ?_⟩
    have hna : a.size ≤ 9223372036854775807 := hp
    clear hp
    have nt : (!true) = false := rfl
    have nf : (!false) = true := rfl
    by_cases pc1 : 1 ≤ t
    rotate_left
    · have e := logT_no (r := ⟨t, s, ⟨k, a, b, i, x⟩⟩) (fun h => pc1 h.t0)
      have c1 : decide (t < 1) = true := by simp; omega
      refine goh (And.intro c1 (And.intro hna (And.intro nt nf))) ?_
      refine W_cnd ?_ ?_ <;> intro hlit <;> try (cases hlit; done)
      refine goh trivial ?_
      exact finh [] e
    have c1 : decide (t < 1) = false := by simp; omega
    by_cases pc1b : t ≤ 1000000
    rotate_left
    · have e := logT_no (r := ⟨t, s, ⟨k, a, b, i, x⟩⟩) (fun h => pc1b h.t1)
      have c1b : decide (t > 1000000) = true := by simp; omega
      refine goh (And.intro c1 (And.intro c1b (And.intro hna (And.intro nt nf)))) ?_
      refine W_cnd ?_ ?_ <;> intro hlit <;> try (cases hlit; done)
      refine goh trivial ?_
      exact finh [] e
    have c1b : decide (t > 1000000) = false := by simp; omega
    by_cases pc2 : 0 ≤ s
    rotate_left
    · have e := logT_no (r := ⟨t, s, ⟨k, a, b, i, x⟩⟩) (fun h => pc2 h.s0)
      have c2 : decide (s < 0) = true := by simp; omega
      refine goh (And.intro c1 (And.intro c1b (And.intro c2 (And.intro hna (And.intro nt nf))))) ?_
      refine W_cnd ?_ ?_ <;> intro hlit <;> try (cases hlit; done)
      refine goh trivial ?_
      exact finh [] e
    have c2 : decide (s < 0) = false := by simp; omega
    by_cases pc2b : s ≤ 7
    rotate_left
    · have e := logT_no (r := ⟨t, s, ⟨k, a, b, i, x⟩⟩) (fun h => pc2b h.s1)
      have c2b : decide (s ≥ 8) = true := by simp; omega
      refine goh (And.intro c1 (And.intro c1b (And.intro c2 (And.intro c2b (And.intro hna (And.intro nt nf)))))) ?_
      refine W_cnd ?_ ?_ <;> intro hlit <;> try (cases hlit; done)
      refine goh trivial ?_
      exact finh [] e
    have c2b : decide (s ≥ 8) = false := by simp; omega
    by_cases pc3 : k = 3
    rotate_left
    · have e := logT_no (r := ⟨t, s, ⟨k, a, b, i, x⟩⟩) (fun h => pc3 h.k)
      have c3 : (k != 3) = true := by simp [pc3]
      refine goh (And.intro c1 (And.intro c1b (And.intro c2 (And.intro c2b (And.intro c3 (And.intro hna (And.intro nt nf))))))) ?_
      refine W_cnd ?_ ?_ <;> intro hlit <;> try (cases hlit; done)
      refine goh trivial ?_
      exact finh [] e
    have c3 : (k != 3) = false := by simp [pc3]
    by_cases pc4 : nameB a = true
    rotate_left
    · have e := logT_no (r := ⟨t, s, ⟨k, a, b, i, x⟩⟩) (fun h => pc4 h.a)
      have c4 : nameB a = false := by simpa using pc4
      refine goh (And.intro c1 (And.intro c1b (And.intro c2 (And.intro c2b (And.intro c3 (And.intro c4 (And.intro hna (And.intro nt nf)))))))) ?_
      refine W_cnd ?_ ?_ <;> intro hlit <;> try (cases hlit; done)
      refine goh trivial ?_
      exact finh [] e
    have c4 : nameB a = true := pc4
    by_cases pc5 : b = ⟨#[]⟩
    rotate_left
    · have e := logT_no (r := ⟨t, s, ⟨k, a, b, i, x⟩⟩) (fun h => pc5 h.b)
      have c5 : same b ⟨#[]⟩ = false := same_false.2 pc5
      refine goh (And.intro c1 (And.intro c1b (And.intro c2 (And.intro c2b (And.intro c3 (And.intro c4 (And.intro c5 (And.intro hna (And.intro nt nf))))))))) ?_
      refine W_cnd ?_ ?_ <;> intro hlit <;> try (cases hlit; done)
      refine goh trivial ?_
      exact finh [] e
    have c5 : same b ⟨#[]⟩ = true := same_true.2 pc5
    by_cases pc6 : 0 ≤ i
    rotate_left
    · have e := logT_no (r := ⟨t, s, ⟨k, a, b, i, x⟩⟩) (fun h => pc6 h.i0)
      have c6 : decide (i < 0) = true := by simp; omega
      refine goh (And.intro c1 (And.intro c1b (And.intro c2 (And.intro c2b (And.intro c3 (And.intro c4 (And.intro c5 (And.intro c6 (And.intro hna (And.intro nt nf)))))))))) ?_
      refine W_cnd ?_ ?_ <;> intro hlit <;> try (cases hlit; done)
      refine goh trivial ?_
      exact finh [] e
    have c6 : decide (i < 0) = false := by simp; omega
    by_cases pc6b : i ≤ 7
    rotate_left
    · have e := logT_no (r := ⟨t, s, ⟨k, a, b, i, x⟩⟩) (fun h => pc6b h.i1)
      have c6b : decide (i ≥ 8) = true := by simp; omega
      refine goh (And.intro c1 (And.intro c1b (And.intro c2 (And.intro c2b (And.intro c3 (And.intro c4 (And.intro c5 (And.intro c6 (And.intro c6b (And.intro hna (And.intro nt nf))))))))))) ?_
      refine W_cnd ?_ ?_ <;> intro hlit <;> try (cases hlit; done)
      refine goh trivial ?_
      exact finh [] e
    have c6b : decide (i ≥ 8) = false := by simp; omega
    by_cases pc7 : x.size ≤ 24
    rotate_left
    · have e := logT_no (r := ⟨t, s, ⟨k, a, b, i, x⟩⟩) (fun h => pc7 h.x)
      have c7 : decide ((x.size : Int) > 24) = true := by simp; omega
      refine goh (And.intro c1 (And.intro c1b (And.intro c2 (And.intro c2b (And.intro c3 (And.intro c4 (And.intro c5 (And.intro c6 (And.intro c6b (And.intro c7 (And.intro hna (And.intro nt nf)))))))))))) ?_
      refine W_cnd ?_ ?_ <;> intro hlit <;> try (cases hlit; done)
      refine goh trivial ?_
      exact finh [] e
    have c7 : decide ((x.size : Int) > 24) = false := by simp; omega
    have hok : LogOk ⟨t, s, ⟨k, a, b, i, x⟩⟩ := ⟨pc1, pc1b, pc2, pc2b, pc3, pc4, pc5, pc6, pc6b, pc7⟩
    have eT := logT_ok hok
    have hIs := logI_size hok
    have hin : ∀ j : Nat, -9223372036854775808 ≤ [t, s].getD j ET.int.dflt ∧ [t, s].getD j ET.int.dflt ≤ 9223372036854775807 := fun j => by
      have hd : ET.int.dflt = (0 : Int) := rfl
      have := hok.t0; have := hok.t1; have := hok.s0; have := hok.s1
      simp only at *
      match j with
      | 0 => simp; omega
      | 1 => simp; omega
      | j + 2 => simp [hd]
    have hi1 : -9223372036854775808 ≤ i ∧ i ≤ 9223372036854775807 := by have := hok.i0; have := hok.i1; simp only at *; omega
    have ht1 : -9223372036854775808 ≤ t ∧ t ≤ 9223372036854775807 := by have := hok.t0; have := hok.t1; simp only at *; omega
    have hs1 : -9223372036854775808 ≤ s ∧ s ≤ 9223372036854775807 := by have := hok.s0; have := hok.s1; simp only at *; omega
    have hx1 : x.size ≤ 1000000000 := by omega
    have hh := @hexV_nil x
    have eI : ∀ X, logX x = X → logI ⟨t, s, ⟨k, a, b, i, x⟩⟩ = decS t ++ ⟨#[46]⟩ ++ decS s ++ ⟨#[32]⟩ ++ a ++ ⟨#[32]⟩ ++ decS i ++ ⟨#[32]⟩ ++ X ++ ⟨#[32]⟩ ++ (decS t ++ ⟨#[46]⟩ ++ decS s) := fun X h => by
      rw [← h]
      unfold logI logM
      rw [joinV_five]
      show pointsV [t, s] ++ _ ++ _ ++ _ ++ _ ++ _ ++ _ ++ _ ++ pointsV [t, s] = _
      have e2 : pointsV [t, s] = decS t ++ ⟨#[46]⟩ ++ decS s := joinV_two 46 _ _
      rw [e2]
    have z1 := decS_size ht1.1 ht1.2
    have z2 := decS_size hs1.1 hs1.2
    have z3 := decS_size hi1.1 hi1.2
    have z4 := (name_size pc4).2
    have z5 := hexV_size x
    have z6 : (⟨#[46]⟩ : ByteArray).size = 1 := rfl
    have z7 : (⟨#[32]⟩ : ByteArray).size = 1 := rfl
    have z8 : (⟨#[45]⟩ : ByteArray).size = 1 := rfl
    refine goh (And.intro c1 (And.intro c1b (And.intro c2 (And.intro c2b (And.intro c3 (And.intro c4 (And.intro c5 (And.intro c6 (And.intro c6b (And.intro c7 (And.intro hna (And.intro nt nf)))))))))))) ?_
    refine W_cnd ?_ ?_ <;> intro hlit <;> try (cases hlit; done)
    by_cases h0 : x.size = 0
    · have eX : logX x = ⟨#[45]⟩ := by unfold logX; rw [if_pos h0]
      rw [decide_eq_true h0] at hh
      have eJ := eI _ eX
      rw [eJ] at eT hIs
      refine goh (And.intro hi1 (And.intro ht1 (And.intro hs1 hh))) ?_
      refine W_cnd ?_ ?_ <;> intro hlit <;> try (cases hlit; done)
      refine goh (And.intro hi1 (And.intro ht1 hs1)) ?_
      exact finh [] eT
    · have eX : logX x = hexV x := by unfold logX; rw [if_neg h0]
      rw [decide_eq_false h0] at hh
      have eJ := eI _ eX
      rw [eJ] at eT hIs
      refine goh (And.intro hi1 (And.intro ht1 (And.intro hs1 hh))) ?_
      refine W_cnd ?_ ?_ <;> intro hlit <;> try (cases hlit; done)
      refine goh (And.intro hi1 (And.intro ht1 hs1)) ?_
      exact finh [] eT
  · simp [no, ifp] at hp
end Go.Proofs.YtjedcphhajlnoaaGreatDoor
/- Plain facts: records are read. -/
namespace Go.Proofs.YtjedcphhajlnoaaGreatDoor
open Go.RowKit

theorem open_log {r : LRec} (h : LogOk r) : openV (logT r) = (logI r, true) := by
  have hc := cutV_at (logT_list h) (no_colon _)
  have hs : sealV (logI r) = logT r := (logT_ok h).symm
  unfold openV
  rw [hc]
  simp only [bytesL_data]
  rw [hs, if_pos ⟨trivial, same_true.2 rfl⟩]
theorem logP_closed {t : ByteArray} (ho : (openV t).2 = false) : logP t = none := by
  cases hu : logP t with
  | none => rfl
  | some r =>
    obtain ⟨h1, rfl⟩ := logP_some.1 hu
    rw [open_log h1] at ho
    cases ho
theorem logP_words {t : ByteArray} (hw : (splitV 32 (openV t).1).length ≠ 5) : logP t = none := by
  cases hu : logP t with
  | none => rfl
  | some r =>
    obtain ⟨h1, rfl⟩ := logP_some.1 hu
    rw [open_log h1, logI_split h1] at hw
    exact absurd rfl hw
/-- What is checked against the text is what was read. -/
theorem logP_check {t w0 a w2 w3 w4 : ByteArray} (hw : splitV 32 (openV t).1 = [w0, a, w2, w3, w4]) {r : LRec} (h : logT r = t) : logP t = some r := by
  by_cases hok : LogOk r
  · exact logP_some.2 ⟨hok, h⟩
  · have : t = ⟨#[]⟩ := by rw [← h]; exact logT_no hok
    rw [this, open_nil, splitV_nil] at hw
    simp at hw
/-- What a record's text is made of. -/
theorem logP_parts {t w0 a w2 w3 w4 : ByteArray} (hw : splitV 32 (openV t).1 = [w0, a, w2, w3, w4]) {r : LRec} (h : logP t = some r) :
    r.op.kind = 3 ∧ r.op.b = ⟨#[]⟩ ∧ a = r.op.a ∧ w2 = decS r.op.i ∧ w3 = logX r.op.text ∧ w0 = logM r ∧ (0 ≤ r.txg ∧ r.txg < 10 ^ 17) ∧ (0 ≤ r.seq ∧ r.seq < 10 ^ 17) ∧ (0 ≤ r.op.i ∧ r.op.i < 10 ^ 17) := by
  obtain ⟨h1, rfl⟩ := logP_some.1 h
  rw [open_log h1, logI_split h1] at hw
  simp only [List.cons.injEq, and_true] at hw
  have := h1.t0; have := h1.t1; have := h1.s0; have := h1.s1; have := h1.i0; have := h1.i1
  exact ⟨h1.k, h1.b, hw.2.1.symm, hw.2.2.1.symm, hw.2.2.2.1.symm, hw.1.symm, ⟨by omega, by omega⟩, ⟨by omega, by omega⟩, ⟨by omega, by omega⟩⟩
theorem logM_cut (r : LRec) : cutV 46 (logM r) = (decS r.txg, decS r.seq, true) := by
  have e : (logM r).data.toList = (decS r.txg).data.toList ++ 46 :: (decS r.seq).data.toList := by
    have e2 : logM r = decS r.txg ++ ⟨#[46]⟩ ++ decS r.seq := joinV_two 46 _ _
    rw [e2]; simp [ByteArray.data_append]
  rw [cutV_at e (no_dot _)]
  simp only [bytesL_data]
theorem logM_words (r : LRec) : splitV 46 (logM r) = [decS r.txg, decS r.seq] := pointsV_split (zs := [r.txg, r.seq]) (by simp)
theorem logX_read (t : ByteArray) : (logX t = ⟨#[45]⟩ ∧ t = ⟨#[]⟩) ∨ (logX t ≠ ⟨#[45]⟩ ∧ unhexV (logX t) = some t) := by
  by_cases h : t.size = 0
  · left
    refine ⟨by unfold logX; rw [if_pos h], ?_⟩
    apply ByteArray.ext
    exact Array.eq_empty_of_size_eq_zero h
  · right
    have e : logX t = hexV t := by unfold logX; rw [if_neg h]
    rw [e]
    refine ⟨fun h2 => ?_, unhex_hex t⟩
    have h3 := congrArg ByteArray.size h2
    rw [hexV_size] at h3
    have h5 : (⟨#[45]⟩ : ByteArray).size = 1 := rfl
    omega
theorem rec_eq {r : LRec} {x y i : Int} {a b : ByteArray} (h1 : r.op.kind = 3) (h2 : r.op.b = ⟨#[]⟩) (h3 : a = r.op.a) (h4 : x = r.txg) (h5 : y = r.seq) (h6 : i = r.op.i) (h7 : b = r.op.text) : r = ⟨x, y, ⟨3, a, ⟨#[]⟩, i, b⟩⟩ := by
  cases r with | mk t s o => cases o; simp only at *; subst h1 h2 h3 h4 h5 h6 h7; rfl
/-- The program reads so: where one part cannot be read, there is no record. -/
theorem logP_impl {t w0 a w2 w3 w4 : ByteArray} (hw : splitV 32 (openV t).1 = [w0, a, w2, w3, w4]) {r : LRec} (h : logP t = some r) :
    atoiV (cutV 46 w0).1 = some r.txg ∧ atoiV (cutV 46 w0).2.1 = some r.seq ∧ atoiV w2 = some r.op.i ∧ ((w3 = ⟨#[45]⟩ ∧ r.op.text = ⟨#[]⟩) ∨ (w3 ≠ ⟨#[45]⟩ ∧ unhexV w3 = some r.op.text)) ∧ r = ⟨r.txg, r.seq, ⟨3, a, ⟨#[]⟩, r.op.i, r.op.text⟩⟩ := by
  obtain ⟨p1, p2, p3, p4, p5, p6, p7, p8, p9⟩ := logP_parts hw h
  subst p6 p4 p5
  rw [logM_cut]
  exact ⟨(atoi_dec p7.1 p7.2).1, (atoi_dec p8.1 p8.2).1, (atoi_dec p9.1 p9.2).1, logX_read _, rec_eq p1 p2 p3 rfl rfl rfl rfl⟩
/-- The reference reads so. -/
theorem logP_spec {t w0 a w2 w3 w4 : ByteArray} (hw : splitV 32 (openV t).1 = [w0, a, w2, w3, w4]) {r : LRec} (h : logP t = some r) :
    splitV 46 w0 = [decS r.txg, decS r.seq] ∧ numV (decS r.txg) = some r.txg ∧ numV (decS r.seq) = some r.seq ∧ numV w2 = some r.op.i ∧ ((w3 = ⟨#[45]⟩ ∧ r.op.text = ⟨#[]⟩) ∨ (w3 ≠ ⟨#[45]⟩ ∧ unhexV w3 = some r.op.text)) ∧ r = ⟨r.txg, r.seq, ⟨3, a, ⟨#[]⟩, r.op.i, r.op.text⟩⟩ := by
  obtain ⟨p1, p2, p3, p4, p5, p6, p7, p8, p9⟩ := logP_parts hw h
  subst p6 p4 p5
  exact ⟨logM_words r, num_dec p7.1 p7.2, num_dec p8.1 p8.2, num_dec p9.1 p9.2, logX_read _, rec_eq p1 p2 p3 rfl rfl rfl rfl⟩
/-- So a check that fails tells that there is none. -/
theorem logP_fail {t : ByteArray} {r : LRec} (h : ∀ r', logP t = some r' → r' = r) (hs : logT r ≠ t) : logP t = none := by
  cases hu : logP t with
  | none => rfl
  | some r' =>
    have := h r' hu
    subst this
    exact absurd (logP_some.1 hu).2 hs
theorem logP_bad {t : ByteArray} (h : ∀ r', logP t = some r' → False) : logP t = none := by
  cases hu : logP t with
  | none => rfl
  | some r' => exact (h r' hu).elim
end Go.Proofs.YtjedcphhajlnoaaGreatDoor
/- Functions: other contracts of what is read. -/
namespace Go.Proofs.YtjedcphhajlnoaaGreatDoor
open Go.RowKit

@[go_sem] def ctNumS2 : Ct := ⟨false, [], fun args os => match args, os with
  | [.one (.val (.string s))], [] => ifp (s.size ≤ 1000000) (.tup [vi ((numV s).getD 0), vb (numV s).isSome])
  | _, _ => no⟩
theorem s_numS2 : Sound Tryz.prog 137 ctNumS2 := by
  intro args os hp
  unfold ctNumS2 at hp ⊢
  dsimp only at hp ⊢
  split at hp
  · rename_i s
    have hp2 : s.size ≤ 1000000 := hp
    have h := s_numS [.one (.val (.string s))] [] hp2
    have e : ctNumS.spec [.one (.val (.string s))] [] = ifp (s.size ≤ 1000000) (.tup [vi ((numV s).getD 0), vb (numV s).isSome]) := by
      show ifp (s.size ≤ 1000000) (match numV s with | some n => .tup [vi n, vb true] | none => .tup [vi 0, vb false]) = _
      cases numV s <;> rfl
    rw [e] at h
    exact h
  · exact hp.elim
theorem s_numS2_e : EnterOk Tryz.prog 137 := s_numS_e
@[go_sem] def ctUnhex2 : Ct := ⟨false, [], fun args os => match args, os with
  | [.one (.val (.string s))], [] => ifp (s.size ≤ 1000000) (.tup [vs ((unhexV s).getD ⟨#[]⟩), vb (unhexV s).isSome])
  | _, _ => no⟩
theorem s_specUnhex2 : Sound Tryz.prog 138 ctUnhex2 := by
  intro args os hp
  unfold ctUnhex2 at hp ⊢
  dsimp only at hp ⊢
  split at hp
  · rename_i s
    have hp2 : s.size ≤ 1000000 := hp
    have h := s_specUnhex [.one (.val (.string s))] [] hp2
    have e : ctUnhex.spec [.one (.val (.string s))] [] = ifp (s.size ≤ 1000000) (.tup [vs ((unhexV s).getD ⟨#[]⟩), vb (unhexV s).isSome]) := by
      show ifp (s.size ≤ 1000000) (match unhexV s with | some t => .tup [vs t, vb true] | none => .tup [vs ⟨#[]⟩, vb false]) = _
      cases unhexV s <;> rfl
    rw [e] at h
    exact h
  · exact hp.elim
theorem s_specUnhex2_e : EnterOk Tryz.prog 138 := s_specUnhex_e
end Go.Proofs.YtjedcphhajlnoaaGreatDoor
