import Derived.Test.YtmnbgppmfbnamaaGreatDoorM10
import Derived.Test.YtmnbgppmfbnamaaGreatDoorM11
import Derived.Test.YtmnbgppmfbnamaaGreatDoorM12
import Derived.Test.YtmnbgppmfbnamaaGreatDoorM14
import Derived.Test.YtmnbgppmfbnamaaGreatDoorM15
import Derived.Test.YtmnbgppmfbnamaaGreatDoorM16
set_option linter.unusedSimpArgs false
set_option linter.unusedVariables false
set_option linter.unusedSectionVars false
/- Functions: texts of roots. -/
namespace Go.Proofs.YtmnbgppmfbnamaaGreatDoor
open Go.RowKit

theorem any_more {α : Type} {f : α → Bool} {xs : List α} {i : Nat} (d : α) (hi : i < xs.length) (h : (xs.take i).any f = false) (h2 : f (xs.getD i d) = false) : (xs.take (i + 1)).any f = false := by
  rw [List.take_add_one, List.any_append, h, List.getElem?_eq_getElem hi]
  rw [show xs.getD i d = xs[i] by simp [hi]] at h2
  simp [h2]
theorem any_one {α : Type} {f : α → Bool} {xs : List α} {i : Nat} (d : α) (hi : i < xs.length) (h2 : f (xs.getD i d) = true) : xs.any f = true := by
  rw [show xs.getD i d = xs[i] by simp [hi]] at h2
  exact List.any_eq_true.2 ⟨_, List.getElem_mem hi, h2⟩
theorem rootT_bad1 {cs : List CSet} (ps : List Ptr) (h : cs.any csetBad = true) : rootT cs ps = ⟨#[]⟩ := by unfold rootT; rw [if_pos h]
theorem rootT_bad2 {cs : List CSet} {ps : List Ptr} (h0 : cs.any csetBad = false) (h : ps.any partBad = true) : rootT cs ps = ⟨#[]⟩ := by unfold rootT; rw [if_neg (by rw [h0]; decide), if_pos h]
theorem rootT_good {cs : List CSet} {ps : List Ptr} (h0 : cs.any csetBad = false) (h : ps.any partBad = false) : rootT cs ps = rootPs (rootS cs) ps := by unfold rootT; rw [if_neg (by rw [h0]; decide), if_neg (by rw [h]; decide)]
theorem rootS_at {cs : List CSet} {i : Nat} (hi : i < cs.length) : rootS (cs.take (i + 1)) = rootS (cs.take i) ++ setL (cs.getD i ET.cset.dflt) := by
  rw [List.take_add_one, List.getElem?_eq_getElem hi, show cs.getD i ET.cset.dflt = cs[i] by simp [hi]]
  exact rootS_snoc _ _
theorem rootPs_at {o : ByteArray} {ps : List Ptr} {i : Nat} (hi : i < ps.length) : rootPs o (ps.take (i + 1)) = rootPs o (ps.take i) ++ partL (ps.getD i ET.ptr.dflt) := by
  rw [List.take_add_one, List.getElem?_eq_getElem hi, show ps.getD i ET.ptr.dflt = ps[i] by simp [hi]]
  exact rootPs_snoc _ _ _
theorem rootS_in {cs : List CSet} {i : Nat} (hl : cs.length ≤ 4000000) (h : (cs.take i).any csetBad = false) : (rootS (cs.take i)).size ≤ 160000004 := by
  have h1 := rootS_size (cs.take i) fun s hs => by
    have := List.any_eq_false.1 h s hs
    simpa [csetBad] using this
  have h2 : (cs.take i).length ≤ cs.length := by rw [List.length_take]; exact Nat.min_le_right ..
  omega
theorem rootPs_in {o : ByteArray} {ps : List Ptr} {i : Nat} (hl : ps.length ≤ 4000000) (h : o.size ≤ 160000004) : (rootPs o (ps.take i)).size ≤ 240000004 := by
  have h1 := rootPs_size (ps.take i) o
  have h2 : (ps.take i).length ≤ ps.length := by rw [List.length_take]; exact Nat.min_le_right ..
  omega
@[go_sem] noncomputable def ctRootT : Ct := ⟨false, [[none, some .cset, some .ent, some .ptr, none, some .int, none]], fun args os => match args, os with
  | [.agg [.val (.int .i64 x), .isl .cset cs, .isl .ent es, .isl .ptr ps, .val (.bool y), .isl .int zs, .val (.int .i64 u)]], [] => ifp (Co.mk x cs es ps y zs u).fit (vs (rootT cs ps))
  | _, _ => no⟩
theorem s_coreRoot_e : EnterOk Tryz.prog 279 := ⟨_, Tryz.func279, rfl, by decide⟩
@[go_sem] def s_coreRoot_lv : List (List Nat) := [[1], [1, 3], [1, 3, 10, 11, 12], [1, 3, 10, 11, 12, 13], [1, 3, 5, 10, 11, 12], [1, 3, 5, 10, 11, 12, 18], [2], [1, 3, 5, 6, 10, 11, 12], [1, 3, 5, 6, 10, 11, 12, 22], [1, 3, 5, 6, 10, 11, 12], [1, 3, 10, 11, 12], [1, 3, 10, 11, 12], [3, 43, 44, 45], [3, 43, 44, 45, 46], [3, 8, 43, 44, 45], [3, 8, 43, 44, 45, 51], [2], [3, 43, 44, 45], [3, 43, 44, 45], [2]]
@[go_sem] noncomputable def s_coreRoot_K : Known := ((((Known.nil).cons 174 ctSetOk s_setOk s_setOk_e).cons 53 ctItoa s_itoa s_itoa_e).cons 280 ctPtrText s_ptrText s_ptrText_e).cons 171 ctReal s_isReal s_isReal_e
set_option maxHeartbeats 8000000 in
theorem s_coreRoot : Sound Tryz.prog 279 ctRootT := by
  have ke := s_coreRoot_K.env []
  have kl : Lives s_coreRoot_lv := trivial
  refine sound_intro (E := ⟨ti, s_coreRoot_K.Γ, []⟩) ke Tryz.func279 Tryz.ntmps279 rfl (rs := [.tmp 2]) rfl ?_
  intro args os hp
  unfold ctRootT at hp ⊢
  dsimp only at hp ⊢
  split at hp
  · rename_i x cs es ps y zs u
    refine ⟨by simp, fun φ0 w0 => ?_⟩
    have hf : (Co.mk x cs es ps y zs u).fit := hp
    obtain ⟨f1, f2, f3, f4⟩ := hf.small
    have hsm := hf.sets
    simp only at f1 f2 f3 f4 hsm
    have nt : (!true) = false := rfl
    have nf : (!false) = true := rfl
    obtain ⟨R, hR⟩ : ∃ R : Nat → ByteArray, R = fun i => rootS (cs.take i) := ⟨_, rfl⟩
    have r0 : R 0 = ⟨#[114, 111, 111, 116]⟩ := by rw [hR]; rfl
    refine goh trivial ?_
    refine W_for cs.length (fun i => (cs.take i).any csetBad = false) (fun i => ⟨[(1, .one (.ptr 0 0)), (3, vs (R i)), (10, .one (.isl .cset cs)), (11, vi cs.length), (12, vi i)], [some (obCo x cs es ps y zs u)], []⟩) [some 0] (leh r0) rfl fun i hi hb => ?_
    refine goh trivial ?_
    refine W_cnd ?_ ?_ <;> (try simp only [cnd_r]) <;> intro hlt
    · have hi' : i < cs.length := by omega
      have hbad := any_one (f := csetBad) ET.cset.dflt hi'
      have hgood := any_more (f := csetBad) ET.cset.dflt hi' hb
      have hsn := rootS_at hi'
      have hsz := rootS_in (i := i) f1 hb
      have hs1 := hsm i
      have hr1 : R (i + 1) = R i ++ setL (cs.getD i ET.cset.dflt) := by rw [hR]; exact hsn
      have hrz : (R i).size ≤ 160000004 := by rw [hR]; exact hsz
      obtain ⟨s, hs0⟩ : ∃ s, cs.getD i ET.cset.dflt = s := ⟨_, rfl⟩
      rw [hs0] at hbad hgood hs1 hr1
      obtain ⟨nm, kd, fr, mp, ⟨pa, pb, pc⟩, dt⟩ := s
      cases hk : csetB ⟨nm, kd, fr, mp, ⟨pa, pb, pc⟩, dt⟩ with
      | false =>
        have e := rootT_bad1 ps (hbad (by unfold csetBad; rw [hk]; rfl))
        refine goh (And.intro hs0 (And.intro hk (And.intro nf hs1))) ?_
        refine W_cnd ?_ ?_ <;> intro hlit <;> try (cases hlit; done)
        refine goh trivial ?_
        exact finh [] e
      | true =>
        obtain ⟨c1, c2, c3, c4, -⟩ := csetB_parts hk
        simp only at c1 c2 c3 c4
        have z1 := (nameB_size c1).2
        have z2 := ptrT_fine ⟨pa, pb, pc⟩
        have z3 := decS_fine (n := kd) (by omega) 0 (by omega)
        have s1 : (⟨#[10]⟩ : ByteArray).size = 1 := rfl
        have s2 : (⟨#[32]⟩ : ByteArray).size = 1 := rfl
        have s3 : (⟨#[45]⟩ : ByteArray).size = 1 := rfl
        have kr : -9223372036854775808 ≤ kd ∧ kd ≤ 9223372036854775807 := by omega
        refine goh (And.intro hs0 (And.intro hk (And.intro nt hs1))) ?_
        refine W_cnd ?_ ?_ <;> intro hlit <;> try (cases hlit; done)
        refine goh hs0 ?_
        refine W_cnd ?_ ?_ <;> (try simp only [cnd_r]) <;> intro hfr
        · have hr2 : R (i + 1) = R i ++ (⟨#[10]⟩ ++ nm ++ ⟨#[32]⟩ ++ decS kd ++ ⟨#[32]⟩ ++ ⟨#[45]⟩ ++ ⟨#[32]⟩ ++ ptrT ⟨pa, pb, pc⟩) := by
            rw [hr1]; unfold setL fromT; rw [if_pos (same_true.2 hfr)]
          repeat' first
            | with_reducible refine red ?_
            | refine W_seq ?_
            | (refine W_reg (s_coreRoot_K.env []) s_coreRoot_lv fun K' hK' => ?_
               simp only [go_sem, hs0, kr, ByteArray.size_append, s1, s2, s3, ↓reduceIte, ↓reduceDIte, reduceCtorEq, Nat.reduceAdd, Nat.reduceMul, Nat.reduceSub, Nat.reduceDiv, Nat.reduceMod, Nat.reduceLT, Nat.reduceLeDiff, Nat.reduceEqDiff, Nat.reduceBEq, Int.reduceToNat, Int.reduceLE, Int.reduceLT, Int.reduceEq, Int.reduceNe, Int.reduceNeg]
               (repeat' refine And.intro ?_ ?_) <;> try first | with_reducible refine hK' ?_ | exact shut6)
            | with_reducible refine blockG_o (by decide) ?_
          exact ⟨[some 0], by omega, leh hr2, hgood (by unfold csetBad; rw [hk]; rfl)⟩
        · have z4 : fr.size ≤ 6 := (nameB_size (c2.resolve_left hfr)).2
          have hr2 : R (i + 1) = R i ++ (⟨#[10]⟩ ++ nm ++ ⟨#[32]⟩ ++ decS kd ++ ⟨#[32]⟩ ++ fr ++ ⟨#[32]⟩ ++ ptrT ⟨pa, pb, pc⟩) := by
            rw [hr1]; unfold setL fromT; rw [if_neg (by rw [same_false.2 hfr]; decide)]
          repeat' first
            | with_reducible refine red ?_
            | refine W_seq ?_
            | (refine W_reg (s_coreRoot_K.env []) s_coreRoot_lv fun K' hK' => ?_
               simp only [go_sem, hs0, kr, ByteArray.size_append, s1, s2, s3, ↓reduceIte, ↓reduceDIte, reduceCtorEq, Nat.reduceAdd, Nat.reduceMul, Nat.reduceSub, Nat.reduceDiv, Nat.reduceMod, Nat.reduceLT, Nat.reduceLeDiff, Nat.reduceEqDiff, Nat.reduceBEq, Int.reduceToNat, Int.reduceLE, Int.reduceLT, Int.reduceEq, Int.reduceNe, Int.reduceNeg]
               (repeat' refine And.intro ?_ ?_) <;> try first | with_reducible refine hK' ?_ | exact shut6)
            | with_reducible refine blockG_o (by decide) ?_
          exact ⟨[some 0], by omega, leh hr2, hgood (by unfold csetBad; rw [hk]; rfl)⟩
    · obtain rfl : i = cs.length := by omega
      have hsz := rootS_in (i := cs.length) f1 hb
      rw [List.take_length] at hb hsz
      obtain ⟨Q, hQ⟩ : ∃ Q : Nat → ByteArray, Q = fun i => rootPs (rootS cs) (ps.take i) := ⟨_, rfl⟩
      have q0 : R cs.length = Q 0 := by rw [hR, hQ]; simp only [List.take_length]; rfl
      refine goh q0 ?_
      refine W_for ps.length (fun i => (ps.take i).any partBad = false) (fun i => ⟨[(3, vs (Q i)), (43, .one (.isl .ptr ps)), (44, vi ps.length), (45, vi i)], [], []⟩) [] (leh trivial) rfl fun i hi hb2 => ?_
      refine goh trivial ?_
      refine W_cnd ?_ ?_ <;> (try simp only [cnd_r]) <;> intro hlt2
      · have hi' : i < ps.length := by omega
        have hbad := any_one (f := partBad) ET.ptr.dflt hi'
        have hgood := any_more (f := partBad) ET.ptr.dflt hi' hb2
        have hr1 : Q (i + 1) = Q i ++ partL (ps.getD i ET.ptr.dflt) := by rw [hQ]; exact rootPs_at hi'
        have hrz : (Q i).size ≤ 240000004 := by rw [hQ]; exact rootPs_in f3 hsz
        obtain ⟨s, hs0⟩ : ∃ s, ps.getD i ET.ptr.dflt = s := ⟨_, rfl⟩
        rw [hs0] at hbad hgood hr1
        obtain ⟨pa, pb, pc⟩ := s
        cases hk : realB ⟨pa, pb, pc⟩ with
        | false =>
          have e := rootT_bad2 (ps := ps) hb (hbad (by unfold partBad; rw [hk]; rfl))
          refine goh (And.intro hs0 (And.intro hk nf)) ?_
          refine W_cnd ?_ ?_ <;> intro hlit <;> try (cases hlit; done)
          refine goh trivial ?_
          exact finh [] e
        | true =>
          have z2 := ptrT_fine ⟨pa, pb, pc⟩
          have s1 : (⟨#[10, 46, 32]⟩ : ByteArray).size = 3 := rfl
          have hr2 : Q (i + 1) = Q i ++ (⟨#[10, 46, 32]⟩ ++ ptrT ⟨pa, pb, pc⟩) := hr1
          refine goh (And.intro hs0 (And.intro hk nt)) ?_
          refine W_cnd ?_ ?_ <;> intro hlit <;> try (cases hlit; done)
          repeat' first
            | with_reducible refine red ?_
            | refine W_seq ?_
            | (refine W_reg (s_coreRoot_K.env []) s_coreRoot_lv fun K' hK' => ?_
               simp only [go_sem, hs0, ByteArray.size_append, s1, ↓reduceIte, ↓reduceDIte, reduceCtorEq, Nat.reduceAdd, Nat.reduceMul, Nat.reduceSub, Nat.reduceDiv, Nat.reduceMod, Nat.reduceLT, Nat.reduceLeDiff, Nat.reduceEqDiff, Nat.reduceBEq, Int.reduceToNat, Int.reduceLE, Int.reduceLT, Int.reduceEq, Int.reduceNe, Int.reduceNeg]
               (repeat' refine And.intro ?_ ?_) <;> try first | with_reducible refine hK' ?_ | exact shut6)
            | with_reducible refine blockG_o (by decide) ?_
          exact ⟨[], by omega, leh hr2, hgood (by unfold partBad; rw [hk]; rfl)⟩
      · obtain rfl : i = ps.length := by omega
        rw [List.take_length] at hb2
        have e : rootT cs ps = Q ps.length := by rw [rootT_good hb hb2, hQ]; simp only [List.take_length]
        refine goh trivial ?_
        exact finh [] e
  · simp [no, ifp] at hp
@[go_sem] noncomputable def ctFrom : Ct := ⟨false, [], fun args os => match args, os with
  | [.one (.val (.string s))], [] => is (vs (fromT s))
  | _, _ => no⟩
theorem s_from_e : EnterOk Tryz.prog 299 := ⟨_, Tryz.func299, rfl, by decide⟩
@[go_sem] def s_from_lv : List (List Nat) := [[0], [0, 4], [2], [2]]
@[go_sem] noncomputable def s_from_K : Known := Known.nil
set_option maxHeartbeats 8000000 in
theorem s_from : Sound Tryz.prog 299 ctFrom := by
  have ke := s_from_K.env []
  have kl : Lives s_from_lv := trivial
  refine sound_intro (E := ⟨ti, s_from_K.Γ, []⟩) ke Tryz.func299 Tryz.ntmps299 rfl (rs := [.tmp 2]) rfl ?_
  intro args os hp
  unfold ctFrom at hp ⊢
  dsimp only at hp ⊢
  split at hp
  · rename_i s
    clear hp
    refine ⟨by simp, fun φ0 w0 => ?_⟩
    refine goh trivial ?_
    refine W_cnd ?_ ?_ <;> (try simp only [cnd_r]) <;> intro hf
    · have e : fromT s = ⟨#[45]⟩ := by unfold fromT; rw [if_pos (same_true.2 hf)]
      refine goh trivial ?_
      exact finh [] e
    · have e : fromT s = s := by unfold fromT; rw [if_neg (by rw [same_false.2 hf]; decide)]
      refine goh trivial ?_
      exact finh [] e
  · simp [no] at hp
theorem s_specCoreRoot_e : EnterOk Tryz.prog 271 := ⟨_, Tryz.func271, rfl, by decide⟩
@[go_sem] def s_specCoreRoot_lv : List (List Nat) := [[1], [1, 3], [1, 3, 4], [1, 3, 4, 11], [1, 3, 4], [1, 3, 4, 5], [1, 3, 4, 5, 21], [2], [1, 3, 4], [1, 3, 6], [1, 3, 6, 46], [1, 3, 6], [1, 3, 6, 64], [2], [1, 3, 6], [2]]
@[go_sem] noncomputable def s_specCoreRoot_K : Known := (((((Known.nil).cons 157 ctSetOk s_l6Set s_l6Set_e).cons 61 ctDecV s_dec2 s_dec2_e).cons 299 ctFrom s_from s_from_e).cons 298 ctPtrText s_specPtrText s_specPtrText_e).cons 158 ctPtrOk s_specPtrOk s_specPtrOk_e
set_option maxHeartbeats 8000000 in
theorem s_specCoreRoot : Sound Tryz.prog 271 ctRootT := by
  have ke := s_specCoreRoot_K.env []
  have kl : Lives s_specCoreRoot_lv := trivial
  refine sound_intro (E := ⟨ti, s_specCoreRoot_K.Γ, []⟩) ke Tryz.func271 Tryz.ntmps271 rfl (rs := [.tmp 2]) rfl ?_
  intro args os hp
  unfold ctRootT at hp ⊢
  dsimp only at hp ⊢
  split at hp
  · rename_i x cs es ps y zs u
    refine ⟨by simp, fun φ0 w0 => ?_⟩
    have hf : (Co.mk x cs es ps y zs u).fit := hp
    obtain ⟨f1, f2, f3, f4⟩ := hf.small
    have hsm := hf.sets
    simp only at f1 f2 f3 f4 hsm
    have nt : (!true) = false := rfl
    have nf : (!false) = true := rfl
    obtain ⟨R, hR⟩ : ∃ R : Nat → ByteArray, R = fun i => rootS (cs.take i) := ⟨_, rfl⟩
    have r0 : R 0 = ⟨#[114, 111, 111, 116]⟩ := by rw [hR]; rfl
    refine goh trivial ?_
    refine W_for cs.length (fun i => (cs.take i).any csetBad = false) (fun i => ⟨[(1, .one (.ptr 0 0)), (3, vs (R i)), (4, vi i)], [some (obCo x cs es ps y zs u)], []⟩) [some 0] (leh r0) rfl fun i hi hb => ?_
    refine goh trivial ?_
    refine W_cnd ?_ ?_ <;> (try simp only [cnd_r]) <;> intro hlt
    · have hi' : i < cs.length := by omega
      have hbad := any_one (f := csetBad) ET.cset.dflt hi'
      have hgood := any_more (f := csetBad) ET.cset.dflt hi' hb
      have hsn := rootS_at hi'
      have hsz := rootS_in (i := i) f1 hb
      have hs1 := hsm i
      have hr1 : R (i + 1) = R i ++ setL (cs.getD i ET.cset.dflt) := by rw [hR]; exact hsn
      have hrz : (R i).size ≤ 160000004 := by rw [hR]; exact hsz
      obtain ⟨s, hs0⟩ : ∃ s, cs.getD i ET.cset.dflt = s := ⟨_, rfl⟩
      rw [hs0] at hbad hgood hs1 hr1
      obtain ⟨nm, kd, fr, mp, ⟨pa, pb, pc⟩, dt⟩ := s
      cases hk : csetB ⟨nm, kd, fr, mp, ⟨pa, pb, pc⟩, dt⟩ with
      | false =>
        have e := rootT_bad1 ps (hbad (by unfold csetBad; rw [hk]; rfl))
        refine goh (And.intro hs0 (And.intro hk (And.intro nf hs1))) ?_
        refine W_cnd ?_ ?_ <;> intro hlit <;> try (cases hlit; done)
        refine goh trivial ?_
        exact finh [] e
      | true =>
        obtain ⟨c1, c2, c3, c4, -⟩ := csetB_parts hk
        simp only at c1 c2 c3 c4
        have z1 := (nameB_size c1).2
        have z2 := ptrT_fine ⟨pa, pb, pc⟩
        have z3 := decS_fine (n := kd) (by omega) 0 (by omega)
        have s1 : (⟨#[10]⟩ : ByteArray).size = 1 := rfl
        have s2 : (⟨#[32]⟩ : ByteArray).size = 1 := rfl
        have z4 : (fromT fr).size ≤ 6 := by
          unfold fromT
          split
          · show 1 ≤ 6; omega
          · rename_i hx
            exact (nameB_size (c2.resolve_left fun h => hx (same_true.2 h))).2
        have kr : -9223372036854775808 ≤ kd ∧ kd ≤ 9223372036854775807 := by omega
        have hr2 : R (i + 1) = R i ++ ⟨#[10]⟩ ++ nm ++ ⟨#[32]⟩ ++ decS kd ++ ⟨#[32]⟩ ++ fromT fr ++ ⟨#[32]⟩ ++ ptrT ⟨pa, pb, pc⟩ := by
          rw [hr1]; unfold setL; simp only [ByteArray.append_assoc]
        refine goh (And.intro hs0 (And.intro hk (And.intro nt hs1))) ?_
        refine W_cnd ?_ ?_ <;> intro hlit <;> try (cases hlit; done)
        repeat' first
          | with_reducible refine red ?_
          | refine W_seq ?_
          | (refine W_reg (s_specCoreRoot_K.env []) s_specCoreRoot_lv fun K' hK' => ?_
             simp only [go_sem, hs0, kr, ByteArray.size_append, s1, s2, ↓reduceIte, ↓reduceDIte, reduceCtorEq, Nat.reduceAdd, Nat.reduceMul, Nat.reduceSub, Nat.reduceDiv, Nat.reduceMod, Nat.reduceLT, Nat.reduceLeDiff, Nat.reduceEqDiff, Nat.reduceBEq, Int.reduceToNat, Int.reduceLE, Int.reduceLT, Int.reduceEq, Int.reduceNe, Int.reduceNeg]
             (repeat' refine And.intro ?_ ?_) <;> try first | with_reducible refine hK' ?_ | exact shut6)
          | with_reducible refine blockG_o (by decide) ?_
        exact ⟨[some 0], by omega, leh hr2, hgood (by unfold csetBad; rw [hk]; rfl)⟩
    · obtain rfl : i = cs.length := by omega
      have hsz := rootS_in (i := cs.length) f1 hb
      rw [List.take_length] at hb hsz
      obtain ⟨Q, hQ⟩ : ∃ Q : Nat → ByteArray, Q = fun i => rootPs (rootS cs) (ps.take i) := ⟨_, rfl⟩
      have q0 : R cs.length = Q 0 := by rw [hR, hQ]; simp only [List.take_length]; rfl
      refine goh q0 ?_
      refine W_for ps.length (fun i => (ps.take i).any partBad = false) (fun i => ⟨[(1, .one (.ptr 0 0)), (3, vs (Q i)), (6, vi i)], [some (obCo x cs es ps y zs u)], []⟩) [some 0] (leh trivial) rfl fun i hi hb2 => ?_
      refine goh trivial ?_
      refine W_cnd ?_ ?_ <;> (try simp only [cnd_r]) <;> intro hlt2
      · have hi' : i < ps.length := by omega
        have hbad := any_one (f := partBad) ET.ptr.dflt hi'
        have hgood := any_more (f := partBad) ET.ptr.dflt hi' hb2
        have hr1 : Q (i + 1) = Q i ++ partL (ps.getD i ET.ptr.dflt) := by rw [hQ]; exact rootPs_at hi'
        have hrz : (Q i).size ≤ 240000004 := by rw [hQ]; exact rootPs_in f3 hsz
        obtain ⟨s, hs0⟩ : ∃ s, ps.getD i ET.ptr.dflt = s := ⟨_, rfl⟩
        rw [hs0] at hbad hgood hr1
        obtain ⟨pa, pb, pc⟩ := s
        cases hk : ptrOkB ⟨pa, pb, pc⟩ with
        | false =>
          have e := rootT_bad2 (ps := ps) hb (hbad (by unfold partBad realB; rw [hk]; rfl))
          refine goh (And.intro hs0 (And.intro hk nf)) ?_
          refine W_cnd ?_ ?_ <;> intro hlit <;> try (cases hlit; done)
          refine goh trivial ?_
          exact finh [] e
        | true =>
          have z2 := ptrT_fine ⟨pa, pb, pc⟩
          have s1 : (⟨#[10, 46, 32]⟩ : ByteArray).size = 3 := rfl
          have hr2 : Q (i + 1) = Q i ++ ⟨#[10, 46, 32]⟩ ++ ptrT ⟨pa, pb, pc⟩ := by rw [hr1]; unfold partL; simp only [ByteArray.append_assoc]
          refine goh (And.intro hs0 (And.intro hk nt)) ?_
          refine W_cnd ?_ ?_ <;> (try simp only [cnd_r]) <;> intro h0
          · have e := rootT_bad2 (ps := ps) hb (hbad (by unfold partBad realB; rw [hk]; simp only; rw [h0]; rfl))
            refine goh trivial ?_
            exact finh [] e
          · simp only [beq_eq_false_iff_ne, ne_eq] at h0
            repeat' first
              | with_reducible refine red ?_
              | refine W_seq ?_
              | (refine W_reg (s_specCoreRoot_K.env []) s_specCoreRoot_lv fun K' hK' => ?_
                 simp only [go_sem, hs0, ByteArray.size_append, s1, ↓reduceIte, ↓reduceDIte, reduceCtorEq, Nat.reduceAdd, Nat.reduceMul, Nat.reduceSub, Nat.reduceDiv, Nat.reduceMod, Nat.reduceLT, Nat.reduceLeDiff, Nat.reduceEqDiff, Nat.reduceBEq, Int.reduceToNat, Int.reduceLE, Int.reduceLT, Int.reduceEq, Int.reduceNe, Int.reduceNeg]
                 (repeat' refine And.intro ?_ ?_) <;> try first | with_reducible refine hK' ?_ | exact shut6)
              | with_reducible refine blockG_o (by decide) ?_
            exact ⟨[some 0], by omega, leh hr2, hgood (by unfold partBad realB; rw [hk]; simp [h0])⟩
      · obtain rfl : i = ps.length := by omega
        rw [List.take_length] at hb2
        have e : rootT cs ps = Q ps.length := by rw [rootT_good hb hb2, hQ]; simp only [List.take_length]
        refine goh trivial ?_
        exact finh [] e
  · simp [no, ifp] at hp
end Go.Proofs.YtmnbgppmfbnamaaGreatDoor
/- Functions: free sectors, what a commit needs. -/
namespace Go.Proofs.YtmnbgppmfbnamaaGreatDoor
open Go.RowKit

@[go_sem] def ctNan : Ct := ⟨false, [], fun args os => match args, os with
  | [.one (.val (.int .i64 x))], [] => is (vb false)
  | _, _ => no⟩
theorem s_nanS_e : EnterOk Tryz.prog 310 := ⟨_, Tryz.func310, rfl, by decide⟩
@[go_sem] def s_nanS_lv : List (List Nat) := [[0], [2]]
@[go_sem] noncomputable def s_nanS_K : Known := Known.nil
set_option maxHeartbeats 8000000 in
theorem s_nanS : Sound Tryz.prog 310 ctNan := by
  have ke := s_nanS_K.env []
  have kl : Lives s_nanS_lv := trivial
  refine sound_intro (E := ⟨ti, s_nanS_K.Γ, []⟩) ke Tryz.func310 Tryz.ntmps310 rfl (rs := [.tmp 2]) rfl ?_
  intro args os hp
  unfold ctNan at hp ⊢
  dsimp only at hp ⊢
  split at hp
  · rename_i x
    clear hp
    refine ⟨by simp, fun φ0 w0 => ?_⟩
    refine goh trivial ?_
    exact finh [] trivial
  · simp [no] at hp
theorem s_nanC_e : EnterOk Tryz.prog 320 := ⟨_, Tryz.func320, rfl, by decide⟩
@[go_sem] def s_nanC_lv : List (List Nat) := [[0], [2]]
@[go_sem] noncomputable def s_nanC_K : Known := Known.nil
set_option maxHeartbeats 8000000 in
theorem s_nanC : Sound Tryz.prog 320 ctNan := by
  have ke := s_nanC_K.env []
  have kl : Lives s_nanC_lv := trivial
  refine sound_intro (E := ⟨ti, s_nanC_K.Γ, []⟩) ke Tryz.func320 Tryz.ntmps320 rfl (rs := [.tmp 2]) rfl ?_
  intro args os hp
  unfold ctNan at hp ⊢
  dsimp only at hp ⊢
  split at hp
  · rename_i x
    clear hp
    refine ⟨by simp, fun φ0 w0 => ?_⟩
    refine goh trivial ?_
    exact finh [] trivial
  · simp [no] at hp
@[go_sem] def ctLessI : Ct := ⟨false, [], fun args os => match args, os with
  | [.one (.val (.int .i64 x)), .one (.val (.int .i64 y))], [] => is (vb (decide (x < y)))
  | _, _ => no⟩
theorem s_lessI_e : EnterOk Tryz.prog 309 := ⟨_, Tryz.func309, rfl, by decide⟩
@[go_sem] def s_lessI_lv : List (List Nat) := [[0, 1], [4]]
@[go_sem] noncomputable def s_lessI_K : Known := (Known.nil).cons 320 ctNan s_nanC s_nanC_e
set_option maxHeartbeats 8000000 in
theorem s_lessI : Sound Tryz.prog 309 ctLessI := by
  have ke := s_lessI_K.env []
  have kl : Lives s_lessI_lv := trivial
  refine sound_intro (E := ⟨ti, s_lessI_K.Γ, []⟩) ke Tryz.func309 Tryz.ntmps309 rfl (rs := [.tmp 4]) rfl ?_
  intro args os hp
  unfold ctLessI at hp ⊢
  dsimp only at hp ⊢
  split at hp
  · rename_i x y
    clear hp
    refine ⟨by simp, fun φ0 w0 => ?_⟩
    refine goh trivial ?_
    exact finh [] trivial
  · simp [no] at hp
/-- Ascending, as an index is looked for. -/
def UpI (zs : List Int) : Prop := ∀ i j, i ≤ j → j < zs.length → zs.getD i ET.int.dflt ≤ zs.getD j ET.int.dflt
theorem safe_up {zs : List Int} (h : ∀ i, i < zs.length → Safe zs i) : UpI zs := by
  intro i j hij
  induction j with
  | zero => intro _; obtain rfl : i = 0 := by omega
            exact Int.le_refl _
  | succ j ih =>
    intro hj
    rcases Nat.lt_or_ge i (j + 1) with h1 | h1
    · have h2 := ih (by omega) (by omega)
      have h3 : zs.getD (j + 1 - 1) ET.int.dflt < zs.getD (j + 1) ET.int.dflt := (h (j + 1) hj).2 (by omega)
      rw [Nat.add_sub_cancel] at h3
      exact Int.le_of_lt (Int.lt_of_le_of_lt h2 h3)
    · obtain rfl : i = j + 1 := by omega
      exact Int.le_refl _
theorem has_low {zs : List Int} {a : Int} {i : Nat} (hu : UpI zs) (hlo : ∀ k, k < i → zs.getD k ET.int.dflt < a) (hhi : i < zs.length → ¬ zs.getD i ET.int.dflt < a) :
    hasI zs a = (decide (i < zs.length) && (zs.getD i ET.int.dflt == a)) := by
  unfold hasI
  rw [Bool.eq_iff_iff, decide_eq_true_iff, Bool.and_eq_true, decide_eq_true_iff, beq_iff_eq]
  constructor
  · intro hm
    obtain ⟨k, hk, rfl⟩ := List.getElem_of_mem hm
    have hki : i ≤ k := by
      rcases Nat.lt_or_ge k i with h | h
      · have := hlo k h; rw [getI hk] at this; omega
      · exact h
    have h1 := hu i k hki hk
    have h2 := hhi (by omega)
    rw [getI hk] at h1
    exact ⟨by omega, by omega⟩
  · rintro ⟨hi, he⟩
    rw [getI hi] at he
    exact he ▸ List.getElem_mem hi
@[go_sem] def ctSearchI : Ct := ⟨false, [[some .int]], fun args os => match args, os with
  | [.one (.isl .int zs), .one (.val (.int .i64 a))], [] => ifp (zs.length ≤ 4000000 ∧ UpI zs) (.tup [.one .any, vb (hasI zs a)])
  | _, _ => no⟩
@[go_sem] def sgSearchI (zs : List Int) (a : Int) (i j : Nat) : Sg := ⟨[(0, .one (.isl .int zs)), (1, vi a), (6, vi zs.length), (7, vi i), (8, vi j)], [], []⟩
theorem s_searchI_e : EnterOk Tryz.prog 300 := ⟨_, Tryz.func300, rfl, by decide⟩
@[go_sem] def s_searchI_lv : List (List Nat) := [[0, 1], [0, 1, 6], [0, 1, 6, 7, 8], [0, 1, 6, 7, 8, 15], [0, 1, 6, 7, 8, 9], [0, 1, 6, 7, 8, 9, 27], [0, 1, 6, 7, 8], [0, 1, 6, 7, 8], [4, 5]]
@[go_sem] noncomputable def s_searchI_K : Known := ((Known.nil).cons 309 ctLessI s_lessI s_lessI_e).cons 310 ctNan s_nanS s_nanS_e
set_option maxHeartbeats 8000000 in
theorem s_searchI : Sound Tryz.prog 300 ctSearchI := by
  have ke := s_searchI_K.env []
  have kl : Lives s_searchI_lv := trivial
  refine sound_intro (E := ⟨ti, s_searchI_K.Γ, []⟩) ke Tryz.func300 Tryz.ntmps300 rfl (rs := [.tmp 4, .tmp 5]) rfl ?_
  intro args os hp
  unfold ctSearchI at hp ⊢
  dsimp only at hp ⊢
  split at hp
  · rename_i zs a
    refine ⟨by simp, fun φ0 w0 => ?_⟩
    obtain ⟨hlen, hu⟩ : zs.length ≤ 4000000 ∧ UpI zs := hp
    refine goh trivial ?_
    refine W_le (σ' := sgSearchI zs a 0 zs.length) [] (leh trivial) ?_
    refine W_loop (fun q σ => ∃ i j : Nat, i ≤ j ∧ j ≤ zs.length ∧ q = j - i ∧ (∀ k, k < i → zs.getD k ET.int.dflt < a) ∧ (j < zs.length → ¬ zs.getD j ET.int.dflt < a) ∧ σ = sgSearchI zs a i j) zs.length ⟨0, zs.length, by omega, by omega, by omega, by omega, by omega, rfl⟩ ?_
    rintro q σ ⟨i, j, hij, hj, rfl, hlo, hhi, rfl⟩
    unfold sgSearchI
    refine goh trivial ?_
    refine W_cnd ?_ ?_ <;> (try simp only [cnd_r]) <;> intro hlt
    · have hH := half i j (by omega) (by omega)
      obtain ⟨h, hh⟩ : ∃ h, (i + j) / 2 = h := ⟨_, rfl⟩
      rw [hh] at hH
      refine goh hH ?_
      refine W_cnd ?_ ?_ <;> (try simp only [cnd_r]) <;> intro hc
      · refine goh trivial ?_
        refine ⟨j - (h + 1), [], sgSearchI zs a (h + 1) j, by omega, leh trivial, h + 1, j, by omega, hj, rfl, fun k hk => ?_, hhi, rfl⟩
        exact Int.lt_of_le_of_lt (hu k h (by omega) (by omega)) hc
      · refine goh trivial ?_
        exact ⟨h - i, [], sgSearchI zs a i h, by omega, leh trivial, i, h, by omega, by omega, rfl, hlo, fun _ => by omega, rfl⟩
    · obtain rfl : i = j := by omega
      have e := has_low hu hlo hhi
      by_cases hi : i < zs.length
      · have hi3 : ((i : Int) < zs.length) = True := by simp; omega
        rw [decide_eq_true hi, Bool.true_and] at e
        cases hq : (zs.getD i ET.int.dflt == a) with
        | true =>
          rw [hq] at e
          refine goh (And.intro hq hi3) ?_
          exact finh [] e
        | false =>
          rw [hq] at e
          refine goh (And.intro hq hi3) ?_
          exact finh [] e
      · have hi3 : ((i : Int) < zs.length) = False := by simp; omega
        rw [decide_eq_false hi, Bool.false_and] at e
        refine goh hi3 ?_
        exact finh [] e
  · simp [no, ifp] at hp
/-- Whether a sector is free. -/
noncomputable def freeB (es : List Ent) (zs : List Int) (a : Int) : Bool := !thereE es a && !hasI zs a
@[go_sem] noncomputable def ctIsFree : Ct := ⟨false, [[none, some .cset, some .ent, some .ptr, none, some .int, none]], fun args os => match args, os with
  | [.agg [.val (.int .i64 x), .isl .cset cs, .isl .ent es, .isl .ptr ps, .val (.bool y), .isl .int zs, .val (.int .i64 u)], .one (.val (.int .i64 a))], [] => ifp ((es.length ≤ 4000000 ∧ Asc es ∧ (-1000000 ≤ a ∧ a ≤ 1000000)) ∧ zs.length ≤ 4000000 ∧ UpI zs) (vb (freeB es zs a))
  | _, _ => no⟩
theorem s_isFree_e : EnterOk Tryz.prog 274 := ⟨_, Tryz.func274, rfl, by decide⟩
@[go_sem] def s_isFree_lv : List (List Nat) := [[1, 2], [1, 2, 6], [6, 8], [4]]
@[go_sem] noncomputable def s_isFree_K : Known := ((Known.nil).cons 230 ctPlaceE s_ddtPlace s_ddtPlace_e).cons 300 ctSearchI s_searchI s_searchI_e
set_option maxHeartbeats 8000000 in
theorem s_isFree : Sound Tryz.prog 274 ctIsFree := by
  have ke := s_isFree_K.env []
  have kl : Lives s_isFree_lv := trivial
  refine sound_intro (E := ⟨ti, s_isFree_K.Γ, []⟩) ke Tryz.func274 Tryz.ntmps274 rfl (rs := [.tmp 4]) rfl ?_
  intro args os hp
  unfold ctIsFree at hp ⊢
  dsimp only at hp ⊢
  split at hp
  · rename_i x cs es ps y zs u a
    refine ⟨by simp, fun φ0 w0 => ?_⟩
    obtain ⟨⟨h1, h2, h3⟩, h4, h5⟩ : (es.length ≤ 4000000 ∧ Asc es ∧ (-1000000 ≤ a ∧ a ≤ 1000000)) ∧ zs.length ≤ 4000000 ∧ UpI zs := hp
    have nt : (!true) = false := rfl
    have nf : (!false) = true := rfl
    cases ht : thereE es a with
    | true =>
      have e : freeB es zs a = false := by unfold freeB; rw [ht]; rfl
      refine goh (And.intro ht nt) ?_
      exact finh [] e
    | false =>
      have e : freeB es zs a = !hasI zs a := by unfold freeB; rw [ht]; rfl
      refine goh (And.intro ht nf) ?_
      exact finh [] e
  · simp [no, ifp] at hp
noncomputable def freeN (es : List Ent) (zs : List Int) (n : Nat) : List Int := ((List.range n).map fun j : Nat => (13 + j : Int)).filter (freeB es zs)
/-- The free sectors among so many. -/
noncomputable def freeL (es : List Ent) (zs : List Int) (n : Int) : List Int := freeN es zs (n - 13).toNat
theorem freeN_succ (es : List Ent) (zs : List Int) (n : Nat) : freeN es zs (n + 1) = freeN es zs n ++ (if freeB es zs (13 + n) = true then [13 + (n : Int)] else []) := by
  unfold freeN
  rw [List.range_succ, List.map_append, List.filter_append]
  congr 1
  simp only [List.map_cons, List.map_nil, List.filter_cons, List.filter_nil]
theorem freeN_len (es : List Ent) (zs : List Int) (n : Nat) : (freeN es zs n).length ≤ n := by
  unfold freeN
  refine Nat.le_trans (List.length_filter_le _ _) ?_
  simp
theorem freeL_mem {es : List Ent} {zs : List Int} {n a : Int} (h : a ∈ freeL es zs n) : 13 ≤ a ∧ a < n := by
  unfold freeL freeN at h
  rw [List.mem_filter] at h
  obtain ⟨j, hj, rfl⟩ := List.mem_map.1 h.1
  rw [List.mem_range] at hj
  omega
@[go_sem] noncomputable def ctFree : Ct := ⟨false, [[none, some .cset, some .ent, some .ptr, none, some .int, none]], fun args os => match args, os with
  | [.agg [.val (.int .i64 x), .isl .cset cs, .isl .ent es, .isl .ptr ps, .val (.bool y), .isl .int zs, .val (.int .i64 u)], .one (.val (.int .i64 n))], [] => ⟨((es.length ≤ 4000000 ∧ Asc es) ∧ zs.length ≤ 4000000 ∧ UpI zs) ∧ n ≤ 1000, .one (.osl .int 0 0 (freeL es zs n).length), [], [.arr .int (freeL es zs n)]⟩
  | _, _ => no⟩
theorem s_free_e : EnterOk Tryz.prog 238 := ⟨_, Tryz.func238, rfl, by decide⟩
@[go_sem] def s_free_lv : List (List Nat) := [[1, 2], [1, 2, 5], [1, 2, 5, 6], [1, 2, 5, 6, 9], [1, 2, 5, 6], [1, 2, 5, 6, 14], [1, 2, 5, 6], [4]]
@[go_sem] noncomputable def s_free_K : Known := (Known.nil).cons 274 ctIsFree s_isFree s_isFree_e
set_option maxHeartbeats 8000000 in
theorem s_free : Sound Tryz.prog 238 ctFree := by
  have ke := s_free_K.env []
  have kl : Lives s_free_lv := trivial
  refine sound_intro (E := ⟨ti, s_free_K.Γ, []⟩) ke Tryz.func238 Tryz.ntmps238 rfl (rs := [.tmp 4]) rfl ?_
  intro args os hp
  unfold ctFree at hp ⊢
  dsimp only at hp ⊢
  split at hp
  · rename_i x cs es ps y zs u n
    refine ⟨by simp, fun φ0 w0 => ?_⟩
    obtain ⟨⟨⟨h1, h2⟩, h3, h4⟩, hn⟩ : ((es.length ≤ 4000000 ∧ Asc es) ∧ zs.length ≤ 4000000 ∧ UpI zs) ∧ n ≤ 1000 := hp
    obtain ⟨F, hF⟩ : ∃ F, freeN es zs = F := ⟨_, rfl⟩
    have f0 : F 0 = [] := by rw [← hF]; rfl
    have nt : (!true) = false := rfl
    refine goh trivial ?_
    refine W_for (n - 13).toNat (fun i => True) (fun i => ⟨[(1, vi n), (2, .one (.ptr 0 0)), (5, .one (.osl .int 1 0 (F i).length)), (6, vi (13 + (i : Int)))], [some (obCo x cs es ps y zs u), some (.arr .int (F i))], []⟩) [some 0, none] (leh f0) trivial fun i hi _ => ?_
    have hl : (F i).length ≤ i := by rw [← hF]; exact freeN_len es zs i
    have ht : (F i).take (F i).length = F i := List.take_length ..
    refine goh trivial ?_
    refine W_cnd ?_ ?_ <;> (try simp only [cnd_r]) <;> intro hlt
    · have hs := freeN_succ es zs i
      rw [hF] at hs
      have wi : (13 : Int) + i + 1 = 13 + ((i + 1 : Nat) : Int) := by omega
      cases hb : freeB es zs (13 + i) with
      | true =>
        rw [hb, if_pos rfl] at hs
        have hsl : (F (i + 1)).length = (F i).length + 1 := by rw [hs, List.length_append]; rfl
        refine goh hb ?_
        refine W_cnd ?_ ?_ <;> intro hlit <;> try (cases hlit; done)
        refine goh ht ?_
        exact ⟨[some 0, some 3], by omega, leh (And.intro hs (And.intro hsl wi)), trivial⟩
      | false =>
        rw [hb, if_neg (by decide), List.append_nil] at hs
        refine goh hb ?_
        refine W_cnd ?_ ?_ <;> intro hlit <;> try (cases hlit; done)
        refine goh trivial ?_
        exact ⟨[some 0, some 1], by omega, leh (And.intro hs wi), trivial⟩
    · obtain rfl : i = (n - 13).toNat := by omega
      have e : freeL es zs n = F (n - 13).toNat := by rw [← hF]; rfl
      refine goh trivial ?_
      exact finh [some 1] e
  · simp [no] at hp
@[go_sem] noncomputable def ctFreeS : Ct := ⟨false, [[none, some .cset, some .ent, some .ptr, none, some .int, none]], fun args os => match args, os with
  | [.agg [.val (.int .i64 x), .isl .cset cs, .isl .ent es, .isl .ptr ps, .val (.bool y), .isl .int zs, .val (.int .i64 u)], .one (.val (.int .i64 n))], [] => ⟨es.length ≤ 4000000 ∧ zs.length ≤ 4000000 ∧ n ≤ 1000, .one (.osl .int 0 0 (freeL es zs n).length), [], [.arr .int (freeL es zs n)]⟩
  | _, _ => no⟩
theorem s_l7Free_e : EnterOk Tryz.prog 232 := ⟨_, Tryz.func232, rfl, by decide⟩
@[go_sem] def s_l7Free_lv : List (List Nat) := [[1, 2], [1, 2, 5], [1, 2, 5, 6], [1, 2, 5, 6, 12], [1, 2, 5, 6], [1, 2, 5, 6, 8], [1, 2, 5, 6, 30], [1, 2, 5, 6], [4]]
@[go_sem] noncomputable def s_l7Free_K : Known := ((Known.nil).cons 218 ctAtE s_l5At s_l5At_e).cons 267 ctHasI s_l7Has s_l7Has_e
set_option maxHeartbeats 8000000 in
theorem s_l7Free : Sound Tryz.prog 232 ctFreeS := by
  have ke := s_l7Free_K.env []
  have kl : Lives s_l7Free_lv := trivial
  refine sound_intro (E := ⟨ti, s_l7Free_K.Γ, []⟩) ke Tryz.func232 Tryz.ntmps232 rfl (rs := [.tmp 4]) rfl ?_
  intro args os hp
  unfold ctFreeS at hp ⊢
  dsimp only at hp ⊢
  split at hp
  · rename_i x cs es ps y zs u n
    refine ⟨by simp, fun φ0 w0 => ?_⟩
    obtain ⟨h1, h3, hn⟩ : es.length ≤ 4000000 ∧ zs.length ≤ 4000000 ∧ n ≤ 1000 := hp
    obtain ⟨F, hF⟩ : ∃ F, freeN es zs = F := ⟨_, rfl⟩
    have f0 : F 0 = [] := by rw [← hF]; rfl
    have nt : (!true) = false := rfl
    have nf : (!false) = true := rfl
    refine goh trivial ?_
    refine W_for (n - 13).toNat (fun i => True) (fun i => ⟨[(1, vi n), (2, .one (.ptr 0 0)), (5, .one (.osl .int 1 0 (F i).length)), (6, vi (13 + (i : Int)))], [some (obCo x cs es ps y zs u), some (.arr .int (F i))], []⟩) [some 0, some 1] (leh f0) trivial fun i hi _ => ?_
    have hl : (F i).length ≤ i := by rw [← hF]; exact freeN_len es zs i
    have ht : (F i).take (F i).length = F i := List.take_length ..
    refine goh trivial ?_
    refine W_cnd ?_ ?_ <;> (try simp only [cnd_r]) <;> intro hlt
    · have hs := freeN_succ es zs i
      rw [hF] at hs
      have wi : (13 : Int) + i + 1 = 13 + ((i + 1 : Nat) : Int) := by omega
      have hfb : freeB es zs (13 + i) = (!thereE es (13 + i) && !hasI zs (13 + i)) := rfl
      cases hb : thereE es (13 + i) with
      | true =>
        rw [hfb, hb, if_neg (by simp), List.append_nil] at hs
        refine goh (And.intro hb nt) ?_
        refine W_cnd ?_ ?_ <;> intro hlit <;> try (cases hlit; done)
        refine goh trivial ?_
        exact ⟨[some 0, some 1], by omega, leh (And.intro hs wi), trivial⟩
      | false =>
        cases hb2 : hasI zs (13 + i) with
        | true =>
          rw [hfb, hb, hb2, if_neg (by simp), List.append_nil] at hs
          refine goh (And.intro hb (And.intro hb2 (And.intro nt nf))) ?_
          refine W_cnd ?_ ?_ <;> intro hlit <;> try (cases hlit; done)
          refine goh trivial ?_
          exact ⟨[some 0, some 1], by omega, leh (And.intro hs wi), trivial⟩
        | false =>
          rw [hfb, hb, hb2, if_pos (by simp)] at hs
          have hsl : (F (i + 1)).length = (F i).length + 1 := by rw [hs, List.length_append]; rfl
          refine goh (And.intro hb (And.intro hb2 (And.intro nt nf))) ?_
          refine W_cnd ?_ ?_ <;> intro hlit <;> try (cases hlit; done)
          refine goh ht ?_
          exact ⟨[some 0, some 3], by omega, leh (And.intro hs (And.intro hsl wi)), trivial⟩
    · obtain rfl : i = (n - 13).toNat := by omega
      have e : freeL es zs n = F (n - 13).toNat := by rw [← hF]; rfl
      refine goh trivial ?_
      exact finh [some 1] e
  · simp [no] at hp
end Go.Proofs.YtmnbgppmfbnamaaGreatDoor
/- Functions: the writes of a commit. -/
namespace Go.Proofs.YtmnbgppmfbnamaaGreatDoor
open Go.RowKit

@[go_sem] def ctWriteC : Ct := ⟨true, [], fun args os => match args, os with
  | [.one (.ptr 0 0), .one (.val (.int .i64 s)), .one (.val (.int .i64 k)), .one (.val (.string t))], [.cells [.osl .str 1 0 na, .osl .str 2 0 nb, .osl .late 3 0 nl, .val (.int .i64 x), .osl .cset 4 0 n1, .osl .ent 5 0 n2, .osl .ptr 6 0 n3, .val (.bool y), .osl .int 7 0 n4, .val (.int .i64 u), .osl .int 8 fo nf, .any, .any, .any, .any, .any, .any], .arr .str a, .arr .str b, .arr .late l, .arr .cset cs, .arr .ent es, .arr .ptr ps, .arr .int zs, .arr .int fr] =>
    if (Dk.mk a b l).may s k t then ⟨(Dk.mk a b l).small ∧ na = a.length ∧ nb = b.length ∧ nl = l.length, vb true, [(0, some (.cells [.osl .str 1 0 na, .osl .str 2 0 nb, .osl .late 9 0 (nl + 1), .val (.int .i64 x), .osl .cset 4 0 n1, .osl .ent 5 0 n2, .osl .ptr 6 0 n3, .val (.bool y), .osl .int 7 0 n4, .val (.int .i64 u), .osl .int 8 fo nf, .any, .any, .any, .any, .any, .any])), (3, none)], [.arr .late (l ++ [⟨s, k, t⟩])]⟩
    else ⟨(Dk.mk a b l).small ∧ na = a.length ∧ nb = b.length ∧ nl = l.length, vb false, [], []⟩
  | _, _ => no⟩
theorem s_writeC_e : EnterOk Tryz.prog 70 := ⟨_, Tryz.func70, rfl, by decide⟩
@[go_sem] def s_writeC_lv : List (List Nat) := [[0, 1, 2, 3], [0, 1, 2, 3, 27], [8], [], [8]]
@[go_sem] noncomputable def s_writeC_K : Known := ((Known.nil).cons 141 ctIsSector s_isSector s_isSector_e).cons 138 ctIsLong s_isLong s_isLong_e
set_option maxHeartbeats 8000000 in
theorem s_writeC : Sound Tryz.prog 70 ctWriteC := by
  have ke := s_writeC_K.env []
  have kl : Lives s_writeC_lv := trivial
  refine sound_intro (E := ⟨ti, s_writeC_K.Γ, []⟩) ke Tryz.func70 Tryz.ntmps70 rfl (rs := [.tmp 8]) rfl ?_
  intro args os hp
  unfold ctWriteC at hp ⊢
  dsimp only at hp ⊢
  split at hp
  · rename_i s k t na nb nl x n1 n2 n3 y n4 u fo nf a b l cs es ps zs fr
    refine ⟨by simp, fun φ0 w0 => ?_⟩
    have hp' : (Dk.mk a b l).small ∧ na = a.length ∧ nb = b.length ∧ nl = l.length := by
      by_cases h : (Dk.mk a b l).may s k t = true
      · rw [if_pos h] at hp; exact hp
      · rw [if_neg h] at hp; exact hp
    obtain ⟨⟨h1, h2, h3⟩, rfl, rfl, rfl⟩ := hp'
    simp only at h1 h2 h3
    have hm := may_eq ⟨a, b, l⟩ s k t
    simp only at hm
    clear hp
    refine goh trivial ?_
    refine W_cnd ?_ ?_ <;> (try simp only [cnd_r]) <;> intro hc
    · have hm0 : (Dk.mk a b l).may s k t = false := by
        rw [hm]
        cases hs : sector a.length s k <;> cases ht : long t <;> simp [hs, ht] at hc ⊢
        omega
      refine goh trivial ?_
      exact finh [some 0, some 1, some 2, some 3, some 4, some 5, some 6, some 7, some 8] hm0
    · have hm0 : (Dk.mk a b l).may s k t = true := by
        rw [hm]
        cases hs : sector a.length s k <;> cases ht : long t <;> simp [hs, ht] at hc ⊢
        omega
      refine goh trivial ?_
      exact finh [some 0, some 1, some 2, some 3, some 4, some 5, some 6, some 7, some 8, some 10] hm0
  · simp [no] at hp
@[go_sem] def ctWriteBothC : Ct := ⟨true, [], fun args os => match args, os with
  | [.one (.ptr 0 0), .one (.val (.int .i64 k)), .one (.val (.string t))], [.cells [.osl .str 1 0 na, .osl .str 2 0 nb, .osl .late 3 0 nl, .val (.int .i64 x), .osl .cset 4 0 n1, .osl .ent 5 0 n2, .osl .ptr 6 0 n3, .val (.bool y), .osl .int 7 0 n4, .val (.int .i64 u), .osl .int 8 fo nf, .any, .any, .any, .any, .any, .any], .arr .str a, .arr .str b, .arr .late l, .arr .cset cs, .arr .ent es, .arr .ptr ps, .arr .int zs, .arr .int fr] =>
    if (Dk.mk a b l).may2 k t then ⟨(Dk.mk a b l).small ∧ na = a.length ∧ nb = b.length ∧ nl = l.length, vb true, [(0, some (.cells [.osl .str 1 0 na, .osl .str 2 0 nb, .osl .late 9 0 (nl + 2), .val (.int .i64 x), .osl .cset 4 0 n1, .osl .ent 5 0 n2, .osl .ptr 6 0 n3, .val (.bool y), .osl .int 7 0 n4, .val (.int .i64 u), .osl .int 8 fo nf, .any, .any, .any, .any, .any, .any])), (3, none)], [.arr .late (l ++ [⟨0, k, t⟩] ++ [⟨1, k, t⟩])]⟩
    else ⟨(Dk.mk a b l).small ∧ na = a.length ∧ nb = b.length ∧ nl = l.length, vb false, [], []⟩
  | _, _ => no⟩
theorem s_writeBothC_e : EnterOk Tryz.prog 182 := ⟨_, Tryz.func182, rfl, by decide⟩
@[go_sem] def s_writeBothC_lv : List (List Nat) := [[0, 1, 2], [0, 1, 2, 12], [6], [6]]
@[go_sem] noncomputable def s_writeBothC_K : Known := (Known.nil).cons 70 ctWriteC s_writeC s_writeC_e
set_option maxHeartbeats 8000000 in
theorem s_writeBothC : Sound Tryz.prog 182 ctWriteBothC := by
  have ke := s_writeBothC_K.env []
  have kl : Lives s_writeBothC_lv := trivial
  refine sound_intro (E := ⟨ti, s_writeBothC_K.Γ, []⟩) ke Tryz.func182 Tryz.ntmps182 rfl (rs := [.tmp 6]) rfl ?_
  intro args os hp
  unfold ctWriteBothC at hp ⊢
  dsimp only at hp ⊢
  split at hp
  · rename_i k t na nb nl x n1 n2 n3 y n4 u fo nf a b l cs es ps zs fr
    refine ⟨by simp, fun φ0 w0 => ?_⟩
    have hp' : (Dk.mk a b l).small ∧ na = a.length ∧ nb = b.length ∧ nl = l.length := by
      by_cases h : (Dk.mk a b l).may2 k t = true
      · rw [if_pos h] at hp; exact hp
      · rw [if_neg h] at hp; exact hp
    obtain ⟨⟨h1, h2, h3⟩, rfl, rfl, rfl⟩ := hp'
    simp only at h1 h2 h3
    have hm : (Dk.mk a b l).may2 k t = (decide (l.length ≤ 598) && (Dk.mk a b l).may 0 k t) := rfl
    clear hp
    refine goh trivial ?_
    refine W_cnd ?_ ?_ <;> (try simp only [cnd_r]) <;> intro hc
    · have hm0 : (Dk.mk a b l).may2 k t = false := by
        rw [hm, Bool.and_eq_false_iff]; left; simp; omega
      refine goh trivial ?_
      exact finh [some 0, some 1, some 2, some 3, some 4, some 5, some 6, some 7, some 8] hm0
    · by_cases h0 : (Dk.mk a b l).may 0 k t = true
      · have hm0 : (Dk.mk a b l).may2 k t = true := by
          rw [hm, h0]; simp; omega
        have h00 : (Dk.mk a b (l ++ [⟨0, k, t⟩])).may 1 k t = true := by
          unfold Dk.may fits at h0 ⊢
          simp only [Bool.and_eq_true, decide_eq_true_eq, List.length_append, List.length_cons, List.length_nil] at h0 ⊢
          omega
        refine goh (And.intro h0 h00) ?_
        exact finh [some 0, some 1, some 2, some 3, some 4, some 5, some 6, some 7, some 8, some 10] hm0
      · have h0 : (Dk.mk a b l).may 0 k t = false := by simpa using h0
        have hm0 : (Dk.mk a b l).may2 k t = false := by rw [hm, h0, Bool.and_false]
        repeat' first
          | with_reducible refine red ?_
          | refine W_seq ?_
          | (refine W_reg (s_writeBothC_K.env [18, 19, 20, 21]) s_writeBothC_lv fun K' hK' => ?_
             simp only [go_sem, Dk.small, h0, ↓reduceIte, ↓reduceDIte, reduceCtorEq, Nat.reduceAdd, Nat.reduceMul, Nat.reduceSub, Nat.reduceDiv, Nat.reduceMod, Nat.reduceLT, Nat.reduceLeDiff, Nat.reduceEqDiff, Nat.reduceBEq, Int.reduceToNat, Int.reduceLE, Int.reduceLT, Int.reduceEq, Int.reduceNe, Int.reduceNeg]
             (repeat' refine And.intro ?_ ?_) <;> try first | with_reducible refine hK' ?_ | exact shut6)
          | with_reducible refine blockG_o (by decide) ?_
        exact finh [some 0, some 1, some 2, some 3, some 4, some 5, some 6, some 7, some 8] hm0
  · simp [no] at hp
@[go_sem] def ctFlushC : Ct := ⟨true, [], fun args os => match args, os with
  | [.one (.ptr 0 0)], [.cells [.osl .str 1 0 na, .osl .str 2 0 nb, .osl .late 3 0 nl, .val (.int .i64 x), .osl .cset 4 0 n1, .osl .ent 5 0 n2, .osl .ptr 6 0 n3, .val (.bool y), .osl .int 7 0 n4, .val (.int .i64 u), .osl .int 8 fo nf, .any, .any, .any, .any, .any, .any], .arr .str a, .arr .str b, .arr .late l, .arr .cset cs, .arr .ent es, .arr .ptr ps, .arr .int zs, .arr .int fr] =>
    ⟨(Dk.mk a b l).ok = true ∧ na = a.length ∧ nb = b.length ∧ nl = l.length, .tup [], [(0, some (.cells [.osl .str 1 0 na, .osl .str 2 0 nb, .val (.slice none 0 0), .val (.int .i64 x), .osl .cset 4 0 n1, .osl .ent 5 0 n2, .osl .ptr 6 0 n3, .val (.bool y), .osl .int 7 0 n4, .val (.int .i64 u), .osl .int 8 fo nf, .any, .any, .any, .any, .any, .any])), (1, some (.arr .str (Dk.mk a b l).flushed.a)), (2, some (.arr .str (Dk.mk a b l).flushed.b))], []⟩
  | _, _ => no⟩
theorem s_flushC_e : EnterOk Tryz.prog 71 := ⟨_, Tryz.func71, rfl, by decide⟩
@[go_sem] def s_flushC_lv : List (List Nat) := [[0, 7, 8, 9], [0, 7, 8, 9, 10], [0, 3, 7, 8, 9], [0, 7, 8, 9], [0, 7, 8, 9], []]
@[go_sem] noncomputable def s_flushC_K : Known := Known.nil
set_option maxHeartbeats 8000000 in
theorem s_flushC : Sound Tryz.prog 71 ctFlushC := by
  have ke := s_flushC_K.env []
  have kl : Lives s_flushC_lv := trivial
  refine sound_intro (E := ⟨ti, s_flushC_K.Γ, []⟩) ke Tryz.func71 Tryz.ntmps71 rfl (rs := []) rfl ?_
  intro args os hp
  unfold ctFlushC at hp ⊢
  dsimp only at hp ⊢
  split at hp
  · rename_i na nb nl x n1 n2 n3 y n4 u fo nf a b l cs es ps zs fr
    refine ⟨by simp, fun φ0 w0 => ?_⟩
    obtain ⟨hok, rfl, rfl, rfl⟩ : (Dk.mk a b l).ok = true ∧ na = a.length ∧ nb = b.length ∧ nl = l.length := hp
    have e3 : a.length ≤ 120 ∧ b.length ≤ 120 ∧ l.length ≤ 600 := Dk.ok_small hok
    have hz := Dk.done_zero (Dk.mk a b l)
    refine goh trivial ?_
    refine W_for l.length (fun i => True) (fun i => ⟨[(0, .one (.ptr 0 0)), (7, .one (.osl .late 3 0 l.length)), (8, vi l.length), (9, vi i)],
      [some (.cells [.osl .str 1 0 ((Dk.mk a b l).done i).1.length, .osl .str 2 0 ((Dk.mk a b l).done i).2.length, .osl .late 3 0 l.length, .val (.int .i64 x), .osl .cset 4 0 n1, .osl .ent 5 0 n2, .osl .ptr 6 0 n3, .val (.bool y), .osl .int 7 0 n4, .val (.int .i64 u), .osl .int 8 fo nf, .any, .any, .any, .any, .any, .any]), some (.arr .str ((Dk.mk a b l).done i).1), some (.arr .str ((Dk.mk a b l).done i).2), some (.arr .late l), some (.arr .cset cs), some (.arr .ent es), some (.arr .ptr ps), some (.arr .int zs), some (.arr .int fr)], [0, 1, 2]⟩) [some 0, some 1, some 2, some 3, some 4, some 5, some 6, some 7, some 8] (leh hz) trivial fun i hi _ => ?_
    obtain ⟨hl1, hl2⟩ := (Dk.mk a b l).done_len i
    simp only at hl1 hl2
    refine goh trivial ?_
    refine W_cnd ?_ ?_ <;> (try simp only [cnd_r]) <;> intro hlt
    · have hi' : i < l.length := by omega
      obtain ⟨ws, w1, w2, w3⟩ := Dk.ok_late hok i hi'
      have hd := (Dk.mk a b l).done_succ i hi'
      obtain ⟨-, -, hab, -⟩ := (Dk.ok_iff _).1 hok
      simp only at ws w1 w2 w3 hd hab
      generalize hx : (Dk.mk a b l).done i = xx at *
      generalize hw : l.getD i ET.late.dflt = w at *
      obtain ⟨s, k, t⟩ := w
      simp only at ws w1 w2 w3
      rcases ws with rfl | rfl
      all_goals
        refine goh hw ?_
        refine ⟨[some 0, some 1, some 2, some 3, some 4, some 5, some 6, some 7, some 8], by omega, ?_, trivial⟩
        rw [hd]
        simp only [go_sem, putW, List.length_set, inj_r, ↓reduceIte, reduceCtorEq, Nat.reduceAdd, Nat.reduceLT, Nat.reduceLeDiff, Nat.reduceEqDiff, Int.reduceEq]
        all_goals (repeat' refine And.intro ?_ ?_) <;> try exact shut7
    · have : i = l.length := by omega
      subst this
      have e4 : (Dk.mk a b l).flushed = ⟨((Dk.mk a b l).done l.length).1, ((Dk.mk a b l).done l.length).2, []⟩ := rfl
      refine goh trivial ?_
      exact finh [some 0, some 1, some 2, some 3, some 4, some 5, some 6, some 7, some 8] e4
  · simp [no] at hp
@[go_sem] def ctPutC : Ct := ⟨true, [], fun args os => match args, os with
  | [.one (.ptr 0 0), .one (.val (.string t))], [.cells [.osl .str 1 0 na, .osl .str 2 0 nb, .osl .late 3 0 nl, .val (.int .i64 x), .osl .cset 4 0 n1, .osl .ent 5 0 n2, .osl .ptr 6 0 n3, .val (.bool y), .osl .int 7 0 n4, .val (.int .i64 u), .osl .int 8 fo nf, .any, .any, .any, .any, .any, .any], .arr .str a, .arr .str b, .arr .late l, .arr .cset cs, .arr .ent es, .arr .ptr ps, .arr .int zs, .arr .int fr] =>
    if (Dk.mk a b l).may2 (fr.getD fo ET.int.dflt) t then ⟨((Dk.mk a b l).small ∧ na = a.length ∧ nb = b.length ∧ nl = l.length) ∧ (fo + nf ≤ fr.length ∧ 0 < nf ∧ fr.length ≤ 4000000) ∧ t.size ≤ 1000000 ∧ 0 ≤ x ∧ x ≤ 1000000, .tup [(blkTo (fr.getD fo ET.int.dflt) t (x + 1)).tv, vb true], [(0, some (.cells [.osl .str 1 0 na, .osl .str 2 0 nb, .osl .late 9 0 (nl + 2), .val (.int .i64 x), .osl .cset 4 0 n1, .osl .ent 5 0 n2, .osl .ptr 6 0 n3, .val (.bool y), .osl .int 7 0 n4, .val (.int .i64 u), .osl .int 8 (fo + 1) (nf - 1), .any, .any, .any, .any, .any, .any])), (3, none)], [.arr .late (l ++ [⟨0, (fr.getD fo ET.int.dflt), t⟩] ++ [⟨1, (fr.getD fo ET.int.dflt), t⟩])]⟩
    else ⟨((Dk.mk a b l).small ∧ na = a.length ∧ nb = b.length ∧ nl = l.length) ∧ (fo + nf ≤ fr.length ∧ 0 < nf ∧ fr.length ≤ 4000000) ∧ t.size ≤ 1000000 ∧ 0 ≤ x ∧ x ≤ 1000000, .tup [ptr0.tv, vb false], [], []⟩
  | _, _ => no⟩
theorem s_putC_e : EnterOk Tryz.prog 275 := ⟨_, Tryz.func275, rfl, by decide⟩
@[go_sem] def s_putC_lv : List (List Nat) := [[0, 1, 4], [0, 1, 4, 6], [0, 1, 4, 6, 19], [4, 5], [0, 1, 4, 6], [4, 5]]
@[go_sem] noncomputable def s_putC_K : Known := ((Known.nil).cons 182 ctWriteBothC s_writeBothC s_writeBothC_e).cons 301 ctBlkTo s_blkTo s_blkTo_e
set_option maxHeartbeats 8000000 in
theorem s_putC : Sound Tryz.prog 275 ctPutC := by
  have ke := s_putC_K.env []
  have kl : Lives s_putC_lv := trivial
  refine sound_intro (E := ⟨ti, s_putC_K.Γ, []⟩) ke Tryz.func275 Tryz.ntmps275 rfl (rs := [.cell 4 187, .tmp 5]) rfl ?_
  intro args os hp
  unfold ctPutC at hp ⊢
  dsimp only at hp ⊢
  split at hp
  · rename_i t na nb nl x n1 n2 n3 y n4 u fo nf a b l cs es ps zs fr
    refine ⟨by simp, fun φ0 w0 => ?_⟩
    obtain ⟨at_, hat⟩ : ∃ q, fr.getD fo ET.int.dflt = q := ⟨_, rfl⟩
    rw [hat] at hp
    have hp' : ((Dk.mk a b l).small ∧ na = a.length ∧ nb = b.length ∧ nl = l.length) ∧ (fo + nf ≤ fr.length ∧ 0 < nf ∧ fr.length ≤ 4000000) ∧ t.size ≤ 1000000 ∧ 0 ≤ x ∧ x ≤ 1000000 := by
      by_cases h : (Dk.mk a b l).may2 at_ t = true
      · rw [if_pos h] at hp; exact hp
      · rw [if_neg h] at hp; exact hp
    clear hp
    obtain ⟨⟨⟨h1, h2, h3⟩, rfl, rfl, rfl⟩, ⟨g1, g2, g3⟩, hts, hx0, hx1⟩ := hp'
    simp only at h1 h2 h3
    have w1 : IntKind.i64.wrap (x + 1) = x + 1 := wrap_id _ (by omega) (by omega)
    have d1 : fo + 0 = fo := rfl
    have nt : (!true) = false := rfl
    have nf' : (!false) = true := rfl
    cases hm : (Dk.mk a b l).may2 at_ t with
    | false =>
      refine goh (And.intro hat (And.intro hm (And.intro d1 nf'))) ?_
      refine W_cnd ?_ ?_ <;> intro hlit <;> try (cases hlit; done)
      refine goh trivial ?_
      refine ⟨by (simp only [go_sem, hat, hm, ptr0, ↓reduceIte, reduceCtorEq, Nat.reduceAdd, Nat.reduceLT, Nat.reduceLeDiff, Nat.reduceEqDiff]) <;> trivial, [some 0, some 1, some 2, some 3, some 4, some 5, some 6, some 7, some 8], ?_⟩
      all_goals try simp only [go_sem, hat, hm, ptr0, inj_r, ↓reduceIte, reduceCtorEq, Nat.reduceAdd, Nat.reduceLT, Nat.reduceLeDiff, Nat.reduceEqDiff, Int.reduceEq]
      all_goals (repeat' refine And.intro ?_ ?_) <;> try exact shut7
    | true =>
      refine goh (And.intro hat (And.intro hm (And.intro d1 nt))) ?_
      refine W_cnd ?_ ?_ <;> intro hlit <;> try (cases hlit; done)
      refine goh w1 ?_
      exact finh [some 0, some 1, some 2, some 3, some 4, some 5, some 6, some 7, some 8, some 10] (And.intro hat hm)
  · simp [no] at hp
end Go.Proofs.YtmnbgppmfbnamaaGreatDoor
/- Functions: the digits of bytes, sealed texts. -/
namespace Go.Proofs.YtmnbgppmfbnamaaGreatDoor
open Go.RowKit

def hexs : ByteArray := ⟨#[48, 49, 50, 51, 52, 53, 54, 55, 56, 57, 97, 98, 99, 100, 101, 102]⟩
def hexd (k : Nat) : UInt8 := hexs.data.getD k 0
def hexN (s : ByteArray) : Nat → List UInt8
  | 0 => []
  | i + 1 => hexN s i ++ [hexd ((s.data.getD i 0).toNat / 16), hexd ((s.data.getD i 0).toNat % 16)]
theorem hexN_len (s : ByteArray) : ∀ i, (hexN s i).length = 2 * i
  | 0 => rfl
  | i + 1 => by unfold hexN; rw [List.length_append, hexN_len s i]; simp only [List.length_cons, List.length_nil]; omega
def hexV (s : ByteArray) : ByteArray := ⟨(hexN s s.size).toArray⟩
theorem nib_hi (b : UInt8) : ((b.toNat : Int)).fdiv (2 ^ min 4 8) = ((b.toNat / 16 : Nat) : Int) := by
  rw [Int.fdiv_eq_ediv_of_nonneg _ (by decide)]
  show (b.toNat : Int) / 16 = _
  omega
theorem nib_lo (b : UInt8) : IntKind.u8.wrap (andZ .u8 b.toNat 15) = ((b.toNat % 16 : Nat) : Int) := by
  have h : ∀ k : Fin 256, IntKind.u8.wrap (andZ .u8 ((k.val : Nat) : Int) 15) = ((k.val % 16 : Nat) : Int) := by decide +kernel
  exact h ⟨b.toNat, b.toNat_lt⟩
theorem hexd_at (k : Nat) : (#[48, 49, 50, 51, 52, 53, 54, 55, 56, 57, 97, 98, 99, 100, 101, 102] : Array UInt8).getD k 0 = hexd k := rfl
@[go_sem] def ctHex : Ct := ⟨false, [], fun args os => match args, os with
  | [.one (.val (.string s))], [] => ifp (s.size ≤ 1000000000) (vs (hexV s))
  | _, _ => no⟩
theorem s_hex_e : EnterOk Tryz.prog 50 := ⟨_, Tryz.func50, rfl, by decide⟩
@[go_sem] def s_hex_lv : List (List Nat) := [[0], [0, 3], [0, 3, 6, 7], [0, 3, 6, 7, 8], [0, 3, 4, 6, 7], [0, 3, 6, 7], [0, 3, 6, 7], [2]]
@[go_sem] noncomputable def s_hex_K : Known := Known.nil
set_option maxHeartbeats 8000000 in
theorem s_hex : Sound Tryz.prog 50 ctHex := by
  have ke := s_hex_K.env []
  have kl : Lives s_hex_lv := trivial
  refine sound_intro (E := ⟨ti, s_hex_K.Γ, []⟩) ke Tryz.func50 Tryz.ntmps50 rfl (rs := [.tmp 2]) rfl ?_
  intro args os hp
  unfold ctHex at hp ⊢
  dsimp only at hp ⊢
  split at hp
  · rename_i s
    have hlen : s.size ≤ 1000000000 := hp
    refine ⟨by simp, fun φ0 w0 => ?_⟩
    refine goh trivial ?_
    refine W_for s.size (fun i => True) (fun i => ⟨[(0, vs s), (3, .one (.osl .byte 0 0 (hexN s i).length)), (6, vi s.size), (7, vi i)], [some (.arr .byte (hexN s i))], []⟩) [none] (leh trivial) trivial fun i hi _ => ?_
    have hl := hexN_len s i
    refine goh trivial ?_
    refine W_cnd ?_ ?_ <;> (try simp only [cnd_r]) <;> intro hlt
    · have h1 := nib_hi (s.data.getD i 0)
      have h2 := nib_lo (s.data.getD i 0)
      have hb := (s.data.getD i 0).toNat_lt
      have hs : hexN s (i + 1) = hexN s i ++ [hexd ((s.data.getD i 0).toNat / 16), hexd ((s.data.getD i 0).toNat % 16)] := rfl
      have hda : ∀ k : Nat, (#[48, 49, 50, 51, 52, 53, 54, 55, 56, 57, 97, 98, 99, 100, 101, 102] : Array UInt8).getD k 0 = hexd k := hexd_at
      have hof : ∀ x : UInt8, UInt8.ofNat x.toNat = x := fun x => UInt8.ofNat_toNat
      refine goh (And.intro h1 (And.intro h2 (And.intro hda hof))) ?_
      exact ⟨[some 2], by omega, leh hs, trivial⟩
    · obtain rfl : i = s.size := by omega
      have e : hexV s = ⟨(hexN s s.size).toArray⟩ := rfl
      refine goh trivial ?_
      exact finh [] e
  · simp [no, ifp] at hp
@[go_sem] def ctDigit : Ct := ⟨false, [], fun args os => match args, os with
  | [.one (.val (.int .i64 n))], [] => ifp (0 ≤ n ∧ n < 16) (.one (.val (.int .u8 (hexd n.toNat).toNat)))
  | _, _ => no⟩
theorem s_digit_e : EnterOk Tryz.prog 134 := ⟨_, Tryz.func134, rfl, by decide⟩
@[go_sem] def s_digit_lv : List (List Nat) := [[0], [2]]
@[go_sem] noncomputable def s_digit_K : Known := Known.nil
set_option maxHeartbeats 8000000 in
theorem s_digit : Sound Tryz.prog 134 ctDigit := by
  have ke := s_digit_K.env []
  have kl : Lives s_digit_lv := trivial
  refine sound_intro (E := ⟨ti, s_digit_K.Γ, []⟩) ke Tryz.func134 Tryz.ntmps134 rfl (rs := [.tmp 2]) rfl ?_
  intro args os hp
  unfold ctDigit at hp ⊢
  dsimp only at hp ⊢
  split at hp
  · rename_i n
    obtain ⟨h1, h2⟩ : 0 ≤ n ∧ n < 16 := hp
    refine ⟨by simp, fun φ0 w0 => ?_⟩
    have hda : ∀ k : Nat, (#[48, 49, 50, 51, 52, 53, 54, 55, 56, 57, 97, 98, 99, 100, 101, 102] : Array UInt8).getD k 0 = hexd k := hexd_at
    refine goh hda ?_
    exact finh [] trivial
  · simp [no, ifp] at hp
theorem s_specHex_e : EnterOk Tryz.prog 60 := ⟨_, Tryz.func60, rfl, by decide⟩
@[go_sem] def s_specHex_lv : List (List Nat) := [[0], [0, 3], [0, 3, 4], [0, 3, 4, 9], [0, 3, 4], [0, 3, 4], [2]]
@[go_sem] noncomputable def s_specHex_K : Known := (Known.nil).cons 134 ctDigit s_digit s_digit_e
set_option maxHeartbeats 8000000 in
theorem s_specHex : Sound Tryz.prog 60 ctHex := by
  have ke := s_specHex_K.env []
  have kl : Lives s_specHex_lv := trivial
  refine sound_intro (E := ⟨ti, s_specHex_K.Γ, []⟩) ke Tryz.func60 Tryz.ntmps60 rfl (rs := [.tmp 2]) rfl ?_
  intro args os hp
  unfold ctHex at hp ⊢
  dsimp only at hp ⊢
  split at hp
  · rename_i s
    have hlen : s.size ≤ 1000000000 := hp
    refine ⟨by simp, fun φ0 w0 => ?_⟩
    refine goh trivial ?_
    refine W_for s.size (fun i => True) (fun i => ⟨[(0, vs s), (3, .one (.osl .byte 0 0 (hexN s i).length)), (4, vi i)], [some (.arr .byte (hexN s i))], []⟩) [some 0] (leh trivial) trivial fun i hi _ => ?_
    have hl := hexN_len s i
    refine goh trivial ?_
    refine W_cnd ?_ ?_ <;> (try simp only [cnd_r]) <;> intro hlt
    · have h1 : ((s.data.getD i 0).toNat : Int).tdiv 16 = (((s.data.getD i 0).toNat / 16 : Nat) : Int) := (Int.ofNat_tdiv _ 16).symm
      have h2 : ((s.data.getD i 0).toNat : Int).tmod 16 = (((s.data.getD i 0).toNat % 16 : Nat) : Int) := (Int.ofNat_tmod _ 16).symm
      have hb := (s.data.getD i 0).toNat_lt
      have w2 : IntKind.i64.wrap ((s.data.getD i 0).toNat : Int) = ((s.data.getD i 0).toNat : Int) := wrap_id _ (by omega) (by omega)
      have w1 : IntKind.i64.wrap (((s.data.getD i 0).toNat / 16 : Nat) : Int) = (((s.data.getD i 0).toNat / 16 : Nat) : Int) := wrap_id _ (by omega) (by omega)
      have hs : hexN s (i + 1) = hexN s i ++ [hexd ((s.data.getD i 0).toNat / 16), hexd ((s.data.getD i 0).toNat % 16)] := rfl
      have hof : ∀ x : UInt8, UInt8.ofNat x.toNat = x := fun x => UInt8.ofNat_toNat
      refine goh (And.intro w2 (And.intro h1 (And.intro h2 (And.intro w1 hof)))) ?_
      exact ⟨[some 2], by omega, leh hs, trivial⟩
    · obtain rfl : i = s.size := by omega
      have e : hexV s = ⟨(hexN s s.size).toArray⟩ := rfl
      refine goh trivial ?_
      exact finh [] e
  · simp [no, ifp] at hp
theorem hexV_size (s : ByteArray) : (hexV s).size = 2 * s.size := by
  show (hexN s s.size).toArray.size = _
  rw [List.size_toArray, hexN_len]
noncomputable def sealV (s : ByteArray) : ByteArray := if 400 < s.size then ⟨#[]⟩ else decS (sumOf s) ++ ⟨#[58]⟩ ++ s
@[go_sem] noncomputable def ctSeal : Ct := ⟨false, [], fun args os => match args, os with
  | [.one (.val (.string s))], [] => is (vs (sealV s))
  | _, _ => no⟩
theorem s_seal_e : EnterOk Tryz.prog 51 := ⟨_, Tryz.func51, rfl, by decide⟩
@[go_sem] def s_seal_lv : List (List Nat) := [[0], [0, 5], [2], [2]]
@[go_sem] noncomputable def s_seal_K : Known := ((Known.nil).cons 124 ctSumOf s_sumOf s_sumOf_e).cons 53 ctItoa s_itoa s_itoa_e
set_option maxHeartbeats 8000000 in
theorem s_seal : Sound Tryz.prog 51 ctSeal := by
  have ke := s_seal_K.env []
  have kl : Lives s_seal_lv := trivial
  refine sound_intro (E := ⟨ti, s_seal_K.Γ, []⟩) ke Tryz.func51 Tryz.ntmps51 rfl (rs := [.tmp 2]) rfl ?_
  intro args os hp
  unfold ctSeal at hp ⊢
  dsimp only at hp ⊢
  split at hp
  · rename_i s
    refine ⟨by simp, fun φ0 w0 => ?_⟩
    refine goh trivial ?_
    refine W_cnd ?_ ?_ <;> (try simp only [cnd_r]) <;> intro hc
    · have e : sealV s = ⟨#[]⟩ := by unfold sealV; rw [if_pos (by omega)]
      refine goh trivial ?_
      exact finh [] e
    · have e : sealV s = decS (sumOf s) ++ ⟨#[58]⟩ ++ s := by unfold sealV; rw [if_neg (by omega)]
      have h1 := sumAt_lt s s.size
      have h2 : sumAt s s.size = sumOf s := rfl
      have h3 := decS_size (n := sumOf s) (by omega) (by omega)
      have h4 : (⟨#[58]⟩ : ByteArray).size = 1 := rfl
      refine goh trivial ?_
      exact finh [] e
  · simp [no, is, ifp] at hp
theorem s_specSeal_e : EnterOk Tryz.prog 62 := ⟨_, Tryz.func62, rfl, by decide⟩
@[go_sem] def s_specSeal_lv : List (List Nat) := [[0], [0, 5], [2], [2]]
@[go_sem] noncomputable def s_specSeal_K : Known := ((Known.nil).cons 135 ctSumOf s_specSum s_specSum_e).cons 61 ctDecV s_dec2 s_dec2_e
set_option maxHeartbeats 8000000 in
theorem s_specSeal : Sound Tryz.prog 62 ctSeal := by
  have ke := s_specSeal_K.env []
  have kl : Lives s_specSeal_lv := trivial
  refine sound_intro (E := ⟨ti, s_specSeal_K.Γ, []⟩) ke Tryz.func62 Tryz.ntmps62 rfl (rs := [.tmp 2]) rfl ?_
  intro args os hp
  unfold ctSeal at hp ⊢
  dsimp only at hp ⊢
  split at hp
  · rename_i s
    refine ⟨by simp, fun φ0 w0 => ?_⟩
    refine goh trivial ?_
    refine W_cnd ?_ ?_ <;> (try simp only [cnd_r]) <;> intro hc
    · have e : sealV s = ⟨#[]⟩ := by unfold sealV; rw [if_pos (by omega)]
      refine goh trivial ?_
      exact finh [] e
    · have e : sealV s = decS (sumOf s) ++ ⟨#[58]⟩ ++ s := by unfold sealV; rw [if_neg (by omega)]
      have h1 := sumAt_lt s s.size
      have h2 : sumAt s s.size = sumOf s := rfl
      have h3 := decS_size (n := sumOf s) (by omega) (by omega)
      have h4 : (⟨#[58]⟩ : ByteArray).size = 1 := rfl
      refine goh trivial ?_
      exact finh [] e
  · simp [no, is, ifp] at hp
end Go.Proofs.YtmnbgppmfbnamaaGreatDoor
/- Functions: pointers are read. -/
namespace Go.Proofs.YtmnbgppmfbnamaaGreatDoor
open Go.RowKit

theorem cut_size (c : UInt8) : ∀ (l : Bs), ∀ w ∈ cutL c l, w.length ≤ l.length
  | [], w, hw => by simp [cutL] at hw; subst hw; exact Nat.le_refl _
  | b :: r, w, hw => by
    have ih := cut_size c r
    unfold cutL at hw
    split at hw
    · rcases List.mem_cons.1 hw with rfl | hw
      · exact Nat.zero_le _
      · exact Nat.le_trans (ih w hw) (by simp)
    · cases hc : cutL c r with
      | nil => exact absurd hc (cutL_ne c r)
      | cons v vs =>
        rw [hc] at hw ih
        rcases List.mem_cons.1 hw with rfl | hw
        · have := ih v (by simp); simp; omega
        · exact Nat.le_trans (ih w (by simp [hw])) (by simp)
theorem splitV_size {c : UInt8} {s w : ByteArray} (h : w ∈ splitV c s) : w.size ≤ s.size := by
  unfold splitV at h
  obtain ⟨l, hl, rfl⟩ := List.mem_map.1 h
  exact cut_size c _ l hl
@[go_sem] noncomputable def ctThree : Ct := ⟨false, [], fun args os => match args, os with
  | [.one (.val (.string t))], [] => ifp (t.size ≤ 1000000) (match thr t with | some (a, b, c) => .tup [vi a, vi b, vi c, vb (same (pointsV [a, b, c]) t)] | none => .tup [vi 0, vi 0, vi 0, vb false])
  | _, _ => no⟩
@[go_sem] noncomputable def ctPtrRead : Ct := ⟨false, [], fun args os => match args, os with
  | [.one (.val (.string t))], [] => ifp (t.size ≤ 1000000) (match ptrReadV t with | some p => .tup [.agg [.val (.int .i64 p.at_), .val (.int .i64 p.sum), .val (.int .i64 p.birth)], vb true] | none => .tup [.agg [.val (.int .i64 0), .val (.int .i64 0), .val (.int .i64 0)], vb false])
  | _, _ => no⟩
/-- A sealed text, opened. -/
noncomputable def openV (s : ByteArray) : ByteArray × Bool := if (cutV 58 s).2.2 = true ∧ same (sealV (cutV 58 s).2.1) s = true then ((cutV 58 s).2.1, true) else (⟨#[]⟩, false)
@[go_sem] noncomputable def ctSumOpen : Ct := ⟨false, [], fun args os => match args, os with
  | [.one (.val (.string s))], [] => ifp (s.size ≤ 1000000) (.tup [vs (openV s).1, vb (openV s).2])
  | _, _ => no⟩
end Go.Proofs.YtmnbgppmfbnamaaGreatDoor
