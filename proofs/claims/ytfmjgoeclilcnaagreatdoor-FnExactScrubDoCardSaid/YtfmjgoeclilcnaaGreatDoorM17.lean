import Derived.Test.YtfmjgoeclilcnaaGreatDoorM9
import Derived.Test.YtfmjgoeclilcnaaGreatDoorM10
import Derived.Test.YtfmjgoeclilcnaaGreatDoorM11
import Derived.Test.YtfmjgoeclilcnaaGreatDoorM12
import Derived.Test.YtfmjgoeclilcnaaGreatDoorM13
import Derived.Test.YtfmjgoeclilcnaaGreatDoorM14
import Derived.Test.YtfmjgoeclilcnaaGreatDoorM16
set_option linter.unusedSimpArgs false
set_option linter.unusedVariables false
set_option linter.unusedSectionVars false
namespace Go.Proofs.YtfmjgoeclilcnaaGreatDoor
open Go.RowKit
theorem any_more {α : Type} {f : α → Bool} {xs : List α} {i : Nat} (d : α) (hi : i < xs.length) (h : (xs.take i).any f = false) (h2 : f (xs.getD i d) = false) : (xs.take (i + 1)).any f = false := by
 rw [List.take_add_one, List.any_append, h, List.getElem?_eq_getElem hi]
 rw [show xs.getD i d = xs[i] by simp [hi]] at h2
 simp [h2]
theorem any_one {α : Type} {f : α → Bool} {xs : List α} {i : Nat} (d : α) (hi : i < xs.length) (h2 : f (xs.getD i d) = true) : xs.any f = true := by
 rw [show xs.getD i d = xs[i] by simp [hi]] at h2
 exact List.any_eq_true.2 ⟨_, List.getElem_mem hi, h2⟩
theorem rootT_bad1 {cs : List CSet} (ps : List Ptr) (h : cs.any csetBad = true) : rootT cs ps = ⟨#[]⟩ := by unfold rootT; rw [if_pos h]
theorem rootT_bad2 {cs : List CSet} {ps : List Ptr} (h0 : cs.any csetBad = false) (h : ps.any partBad = true) : rootT cs ps = ⟨#[]⟩ := by unfold rootT; rw [if_neg (by rw [h0]; decide), if_pos h]
theorem rootT_good {cs : List CSet} {ps : List Ptr} (h0 : cs.any csetBad = false) (h : ps.any partBad = false) : rootT cs ps = rootPs (rootS cs) ps := by unfold rootT; rw [if_neg (by rw [h0]; decide), if_neg (by rw [h]; decide)]
theorem rootS_at {cs : List CSet} {i : Nat} (hi : i < cs.length) : rootS (cs.take (i + 1)) = rootS (cs.take i) ++ setL (cs.getD i ET.cset.dflt) := by
 rw [List.take_add_one, List.getElem?_eq_getElem hi, show cs.getD i ET.cset.dflt = cs[i] by simp [hi]]
 exact rootS_snoc _ _
theorem rootPs_at {o : ByteArray} {ps : List Ptr} {i : Nat} (hi : i < ps.length) : rootPs o (ps.take (i + 1)) = rootPs o (ps.take i) ++ partL (ps.getD i ET.ptr.dflt) := by
 rw [List.take_add_one, List.getElem?_eq_getElem hi, show ps.getD i ET.ptr.dflt = ps[i] by simp [hi]]
 exact rootPs_snoc _ _ _
theorem rootS_in {cs : List CSet} {i : Nat} (hl : cs.length ≤ 4000000) (h : (cs.take i).any csetBad = false) : (rootS (cs.take i)).size ≤ 160000004 := by
 have h1 := rootS_size (cs.take i) fun s hs => by
  have := List.any_eq_false.1 h s hs
  simpa [csetBad] using this
 have h2 : (cs.take i).length ≤ cs.length := by rw [List.length_take]; exact Nat.min_le_right ..
 omega
theorem rootPs_in {o : ByteArray} {ps : List Ptr} {i : Nat} (hl : ps.length ≤ 4000000) (h : o.size ≤ 160000004) : (rootPs o (ps.take i)).size ≤ 240000004 := by
 have h1 := rootPs_size (ps.take i) o
 have h2 : (ps.take i).length ≤ ps.length := by rw [List.length_take]; exact Nat.min_le_right ..
 omega
@[go_sem] noncomputable def ctRootT : Ct := ⟨false, [[none, some .cset, some .ent, some .ptr, none, some .int, none]], fun args os => match args, os with
  | [.agg [.val (.int .i64 x), .isl .cset cs, .isl .ent es, .isl .ptr ps, .val (.bool y), .isl .int zs, .val (.int .i64 u)]], [] => ifp (Co.mk x cs es ps y zs u).fit (vs (rootT cs ps))
  | _, _ => no⟩
theorem s_coreRoot_e : EnterOk Tryz.prog 134 := ⟨_, Tryz.func134, rfl, by decide⟩
@[go_sem] def s_coreRoot_lv : List (List Nat) := [[1], [1, 3], [1, 3, 10, 11, 12], [1, 3, 10, 11, 12, 13], [1, 3, 5, 10, 11, 12], [1, 3, 5, 10, 11, 12, 18], [2], [1, 3, 5, 6, 10, 11, 12], [1, 3, 5, 6, 10, 11, 12, 22], [1, 3, 5, 6, 10, 11, 12], [1, 3, 10, 11, 12], [1, 3, 10, 11, 12], [3, 43, 44, 45], [3, 43, 44, 45, 46], [3, 8, 43, 44, 45], [3, 8, 43, 44, 45, 51], [2], [3, 43, 44, 45], [3, 43, 44, 45], [2]]
@[go_sem] noncomputable def s_coreRoot_K : Known := ((((Known.nil).cons 142 ctSetOk s_setOk s_setOk_e).cons 194 ctItoa s_itoa s_itoa_e).cons 195 ctPtrText s_ptrText s_ptrText_e).cons 96 ctReal s_isReal s_isReal_e
set_option maxHeartbeats 8000000 in
theorem s_coreRoot : Sound Tryz.prog 134 ctRootT := by
 have ke := s_coreRoot_K.env []
 have kl : Lives s_coreRoot_lv := trivial
 refine sound_intro (E := ⟨ti, s_coreRoot_K.Γ, []⟩) ke Tryz.func134 Tryz.ntmps134 rfl (rs := [.tmp 2]) rfl ?_
 intro args os hp
 unfold ctRootT at hp ⊢
 dsimp only at hp ⊢
 split at hp
 ·rename_i x cs es ps y zs u
  refine ⟨by simp, fun φ0 w0 => ?_⟩
  have hf : (Co.mk x cs es ps y zs u).fit := hp
  obtain ⟨f1, f2, f3, f4⟩ := hf.small
  have hsm := hf.sets
  simp only at f1 f2 f3 f4 hsm
  have nt : (!true) = false := rfl
  have nf : (!false) = true := rfl
  obtain ⟨R, hR⟩ : ∃ R : Nat → ByteArray, R = fun i => rootS (cs.take i) := ⟨_, rfl⟩
  have r0 : R 0 = ⟨#[114, 111, 111, 116]⟩ := by rw [hR]; rfl
  refine goh trivial ?_
  refine W_for cs.length (fun i => (cs.take i).any csetBad = false) (fun i => ⟨[(1, .one (.ptr 0 0)), (3, vs (R i)), (10, .one (.isl .cset cs)), (11, vi cs.length), (12, vi i)], [some (obCo x cs es ps y zs u)], []⟩) [some 0] (leh r0) rfl fun i hi hb => ?_
  refine goh trivial ?_
  refine W_cnd ?_ ?_ <;> (try simp only [cnd_r]) <;> intro hlt
  ·have hi' : i < cs.length := by omega
   have hbad := any_one (f := csetBad) ET.cset.dflt hi'
   have hgood := any_more (f := csetBad) ET.cset.dflt hi' hb
   have hsn := rootS_at hi'
   have hsz := rootS_in (i := i) f1 hb
   have hs1 := hsm i
   have hr1 : R (i + 1) = R i ++ setL (cs.getD i ET.cset.dflt) := by rw [hR]; exact hsn
   have hrz : (R i).size ≤ 160000004 := by rw [hR]; exact hsz
   obtain ⟨s, hs0⟩ : ∃ s, cs.getD i ET.cset.dflt = s := ⟨_, rfl⟩
   rw [hs0] at hbad hgood hs1 hr1
   obtain ⟨nm, kd, fr, mp, ⟨pa, pb, pc⟩, dt⟩ := s
   cases hk : csetB ⟨nm, kd, fr, mp, ⟨pa, pb, pc⟩, dt⟩ with
   | false =>
     have e := rootT_bad1 ps (hbad (by unfold csetBad; rw [hk]; rfl))
     refine goh (And.intro hs0 (And.intro hk (And.intro nf hs1))) ?_
     refine W_cnd ?_ ?_ <;> intro hlit <;> try (cases hlit; done)
     refine goh trivial ?_
     exact finh [] e
   | true =>
     obtain ⟨c1, c2, c3, c4, -⟩ := csetB_parts hk
     simp only at c1 c2 c3 c4
     have z1 := (nameB_size c1).2
     have z2 := ptrT_fine ⟨pa, pb, pc⟩
     have z3 := decS_fine (n := kd) (by omega) 0 (by omega)
     have s1 : (⟨#[10]⟩ : ByteArray).size = 1 := rfl
     have s2 : (⟨#[32]⟩ : ByteArray).size = 1 := rfl
     have s3 : (⟨#[45]⟩ : ByteArray).size = 1 := rfl
     have kr : -9223372036854775808 ≤ kd ∧ kd ≤ 9223372036854775807 := by omega
     refine goh (And.intro hs0 (And.intro hk (And.intro nt hs1))) ?_
     refine W_cnd ?_ ?_ <;> intro hlit <;> try (cases hlit; done)
     refine goh hs0 ?_
     refine W_cnd ?_ ?_ <;> (try simp only [cnd_r]) <;> intro hfr
     ·have hr2 : R (i + 1) = R i ++ (⟨#[10]⟩ ++ nm ++ ⟨#[32]⟩ ++ decS kd ++ ⟨#[32]⟩ ++ ⟨#[45]⟩ ++ ⟨#[32]⟩ ++ ptrT ⟨pa, pb, pc⟩) := by
       rw [hr1]; unfold setL fromT; rw [if_pos (same_true.2 hfr)]
      repeat' first
       | with_reducible refine red ?_
       | refine W_seq ?_
       | (refine W_reg (s_coreRoot_K.env []) s_coreRoot_lv fun K' hK' => ?_
          simp only [go_sem, hs0, kr, ByteArray.size_append, s1, s2, s3, ↓reduceIte, ↓reduceDIte, reduceCtorEq, Nat.reduceAdd, Nat.reduceMul, Nat.reduceSub, Nat.reduceDiv, Nat.reduceMod, Nat.reduceLT, Nat.reduceLeDiff, Nat.reduceEqDiff, Nat.reduceBEq, Int.reduceToNat, Int.reduceLE, Int.reduceLT, Int.reduceEq, Int.reduceNe, Int.reduceNeg]
          (repeat' refine And.intro ?_ ?_) <;> try first | with_reducible refine hK' ?_ | exact shut6)
       | with_reducible refine blockG_o (by decide) ?_
      exact ⟨[some 0], by omega, leh hr2, hgood (by unfold csetBad; rw [hk]; rfl)⟩
     ·have z4 : fr.size ≤ 6 := (nameB_size (c2.resolve_left hfr)).2
      have hr2 : R (i + 1) = R i ++ (⟨#[10]⟩ ++ nm ++ ⟨#[32]⟩ ++ decS kd ++ ⟨#[32]⟩ ++ fr ++ ⟨#[32]⟩ ++ ptrT ⟨pa, pb, pc⟩) := by
       rw [hr1]; unfold setL fromT; rw [if_neg (by rw [same_false.2 hfr]; decide)]
      repeat' first
       | with_reducible refine red ?_
       | refine W_seq ?_
       | (refine W_reg (s_coreRoot_K.env []) s_coreRoot_lv fun K' hK' => ?_
          simp only [go_sem, hs0, kr, ByteArray.size_append, s1, s2, s3, ↓reduceIte, ↓reduceDIte, reduceCtorEq, Nat.reduceAdd, Nat.reduceMul, Nat.reduceSub, Nat.reduceDiv, Nat.reduceMod, Nat.reduceLT, Nat.reduceLeDiff, Nat.reduceEqDiff, Nat.reduceBEq, Int.reduceToNat, Int.reduceLE, Int.reduceLT, Int.reduceEq, Int.reduceNe, Int.reduceNeg]
          (repeat' refine And.intro ?_ ?_) <;> try first | with_reducible refine hK' ?_ | exact shut6)
       | with_reducible refine blockG_o (by decide) ?_
      exact ⟨[some 0], by omega, leh hr2, hgood (by unfold csetBad; rw [hk]; rfl)⟩
  ·obtain rfl : i = cs.length := by omega
   have hsz := rootS_in (i := cs.length) f1 hb
   rw [List.take_length] at hb hsz
   obtain ⟨Q, hQ⟩ : ∃ Q : Nat → ByteArray, Q = fun i => rootPs (rootS cs) (ps.take i) := ⟨_, rfl⟩
   have q0 : R cs.length = Q 0 := by rw [hR, hQ]; simp only [List.take_length]; rfl
   refine goh q0 ?_
   refine W_for ps.length (fun i => (ps.take i).any partBad = false) (fun i => ⟨[(3, vs (Q i)), (43, .one (.isl .ptr ps)), (44, vi ps.length), (45, vi i)], [], []⟩) [] (leh trivial) rfl fun i hi hb2 => ?_
   refine goh trivial ?_
   refine W_cnd ?_ ?_ <;> (try simp only [cnd_r]) <;> intro hlt2
   ·have hi' : i < ps.length := by omega
    have hbad := any_one (f := partBad) ET.ptr.dflt hi'
    have hgood := any_more (f := partBad) ET.ptr.dflt hi' hb2
    have hr1 : Q (i + 1) = Q i ++ partL (ps.getD i ET.ptr.dflt) := by rw [hQ]; exact rootPs_at hi'
    have hrz : (Q i).size ≤ 240000004 := by rw [hQ]; exact rootPs_in f3 hsz
    obtain ⟨s, hs0⟩ : ∃ s, ps.getD i ET.ptr.dflt = s := ⟨_, rfl⟩
    rw [hs0] at hbad hgood hr1
    obtain ⟨pa, pb, pc⟩ := s
    cases hk : realB ⟨pa, pb, pc⟩ with
    | false =>
      have e := rootT_bad2 (ps := ps) hb (hbad (by unfold partBad; rw [hk]; rfl))
      refine goh (And.intro hs0 (And.intro hk nf)) ?_
      refine W_cnd ?_ ?_ <;> intro hlit <;> try (cases hlit; done)
      refine goh trivial ?_
      exact finh [] e
    | true =>
      have z2 := ptrT_fine ⟨pa, pb, pc⟩
      have s1 : (⟨#[10, 46, 32]⟩ : ByteArray).size = 3 := rfl
      have hr2 : Q (i + 1) = Q i ++ (⟨#[10, 46, 32]⟩ ++ ptrT ⟨pa, pb, pc⟩) := hr1
      refine goh (And.intro hs0 (And.intro hk nt)) ?_
      refine W_cnd ?_ ?_ <;> intro hlit <;> try (cases hlit; done)
      repeat' first
       | with_reducible refine red ?_
       | refine W_seq ?_
       | (refine W_reg (s_coreRoot_K.env []) s_coreRoot_lv fun K' hK' => ?_
          simp only [go_sem, hs0, ByteArray.size_append, s1, ↓reduceIte, ↓reduceDIte, reduceCtorEq, Nat.reduceAdd, Nat.reduceMul, Nat.reduceSub, Nat.reduceDiv, Nat.reduceMod, Nat.reduceLT, Nat.reduceLeDiff, Nat.reduceEqDiff, Nat.reduceBEq, Int.reduceToNat, Int.reduceLE, Int.reduceLT, Int.reduceEq, Int.reduceNe, Int.reduceNeg]
          (repeat' refine And.intro ?_ ?_) <;> try first | with_reducible refine hK' ?_ | exact shut6)
       | with_reducible refine blockG_o (by decide) ?_
      exact ⟨[], by omega, leh hr2, hgood (by unfold partBad; rw [hk]; rfl)⟩
   ·obtain rfl : i = ps.length := by omega
    rw [List.take_length] at hb2
    have e : rootT cs ps = Q ps.length := by rw [rootT_good hb hb2, hQ]; simp only [List.take_length]
    refine goh trivial ?_
    exact finh [] e
 ·simp [no, ifp] at hp
@[go_sem] noncomputable def ctFrom : Ct := ⟨false, [], fun args os => match args, os with
  | [.one (.val (.string s))], [] => is (vs (fromT s))
  | _, _ => no⟩
theorem s_from_e : EnterOk Tryz.prog 173 := ⟨_, Tryz.func173, rfl, by decide⟩
@[go_sem] def s_from_lv : List (List Nat) := [[0], [0, 4], [2], [2]]
@[go_sem] noncomputable def s_from_K : Known := Known.nil
set_option maxHeartbeats 8000000 in
theorem s_from : Sound Tryz.prog 173 ctFrom := by
 have ke := s_from_K.env []
 have kl : Lives s_from_lv := trivial
 refine sound_intro (E := ⟨ti, s_from_K.Γ, []⟩) ke Tryz.func173 Tryz.ntmps173 rfl (rs := [.tmp 2]) rfl ?_
 intro args os hp
 unfold ctFrom at hp ⊢
 dsimp only at hp ⊢
 split at hp
 ·rename_i s
  clear hp
  refine ⟨by simp, fun φ0 w0 => ?_⟩
  refine goh trivial ?_
  refine W_cnd ?_ ?_ <;> (try simp only [cnd_r]) <;> intro hf
  ·have e : fromT s = ⟨#[45]⟩ := by unfold fromT; rw [if_pos (same_true.2 hf)]
   refine goh trivial ?_
   exact finh [] e
  ·have e : fromT s = s := by unfold fromT; rw [if_neg (by rw [same_false.2 hf]; decide)]
   refine goh trivial ?_
   exact finh [] e
 ·simp [no] at hp
theorem s_specCoreRoot_e : EnterOk Tryz.prog 108 := ⟨_, Tryz.func108, rfl, by decide⟩
@[go_sem] def s_specCoreRoot_lv : List (List Nat) := [[1], [1, 3], [1, 3, 4], [1, 3, 4, 11], [1, 3, 4], [1, 3, 4, 5], [1, 3, 4, 5, 21], [2], [1, 3, 4], [1, 3, 6], [1, 3, 6, 46], [1, 3, 6], [1, 3, 6, 64], [2], [1, 3, 6], [2]]
@[go_sem] noncomputable def s_specCoreRoot_K : Known := (((((Known.nil).cons 115 ctSetOk s_l6Set s_l6Set_e).cons 172 ctDecV s_dec2 s_dec2_e).cons 173 ctFrom s_from s_from_e).cons 174 ctPtrText s_specPtrText s_specPtrText_e).cons 87 ctPtrOk s_specPtrOk s_specPtrOk_e
set_option maxHeartbeats 8000000 in
theorem s_specCoreRoot : Sound Tryz.prog 108 ctRootT := by
 have ke := s_specCoreRoot_K.env []
 have kl : Lives s_specCoreRoot_lv := trivial
 refine sound_intro (E := ⟨ti, s_specCoreRoot_K.Γ, []⟩) ke Tryz.func108 Tryz.ntmps108 rfl (rs := [.tmp 2]) rfl ?_
 intro args os hp
 unfold ctRootT at hp ⊢
 dsimp only at hp ⊢
 split at hp
 ·rename_i x cs es ps y zs u
  refine ⟨by simp, fun φ0 w0 => ?_⟩
  have hf : (Co.mk x cs es ps y zs u).fit := hp
  obtain ⟨f1, f2, f3, f4⟩ := hf.small
  have hsm := hf.sets
  simp only at f1 f2 f3 f4 hsm
  have nt : (!true) = false := rfl
  have nf : (!false) = true := rfl
  obtain ⟨R, hR⟩ : ∃ R : Nat → ByteArray, R = fun i => rootS (cs.take i) := ⟨_, rfl⟩
  have r0 : R 0 = ⟨#[114, 111, 111, 116]⟩ := by rw [hR]; rfl
  refine goh trivial ?_
  refine W_for cs.length (fun i => (cs.take i).any csetBad = false) (fun i => ⟨[(1, .one (.ptr 0 0)), (3, vs (R i)), (4, vi i)], [some (obCo x cs es ps y zs u)], []⟩) [some 0] (leh r0) rfl fun i hi hb => ?_
  refine goh trivial ?_
  refine W_cnd ?_ ?_ <;> (try simp only [cnd_r]) <;> intro hlt
  ·have hi' : i < cs.length := by omega
   have hbad := any_one (f := csetBad) ET.cset.dflt hi'
   have hgood := any_more (f := csetBad) ET.cset.dflt hi' hb
   have hsn := rootS_at hi'
   have hsz := rootS_in (i := i) f1 hb
   have hs1 := hsm i
   have hr1 : R (i + 1) = R i ++ setL (cs.getD i ET.cset.dflt) := by rw [hR]; exact hsn
   have hrz : (R i).size ≤ 160000004 := by rw [hR]; exact hsz
   obtain ⟨s, hs0⟩ : ∃ s, cs.getD i ET.cset.dflt = s := ⟨_, rfl⟩
   rw [hs0] at hbad hgood hs1 hr1
   obtain ⟨nm, kd, fr, mp, ⟨pa, pb, pc⟩, dt⟩ := s
   cases hk : csetB ⟨nm, kd, fr, mp, ⟨pa, pb, pc⟩, dt⟩ with
   | false =>
     have e := rootT_bad1 ps (hbad (by unfold csetBad; rw [hk]; rfl))
     refine goh (And.intro hs0 (And.intro hk (And.intro nf hs1))) ?_
     refine W_cnd ?_ ?_ <;> intro hlit <;> try (cases hlit; done)
     refine goh trivial ?_
     exact finh [] e
   | true =>
     obtain ⟨c1, c2, c3, c4, -⟩ := csetB_parts hk
     simp only at c1 c2 c3 c4
     have z1 := (nameB_size c1).2
     have z2 := ptrT_fine ⟨pa, pb, pc⟩
     have z3 := decS_fine (n := kd) (by omega) 0 (by omega)
     have s1 : (⟨#[10]⟩ : ByteArray).size = 1 := rfl
     have s2 : (⟨#[32]⟩ : ByteArray).size = 1 := rfl
     have z4 : (fromT fr).size ≤ 6 := by
      unfold fromT
      split
      ·show 1 ≤ 6; omega
      ·rename_i hx
       exact (nameB_size (c2.resolve_left fun h => hx (same_true.2 h))).2
     have kr : -9223372036854775808 ≤ kd ∧ kd ≤ 9223372036854775807 := by omega
     have hr2 : R (i + 1) = R i ++ ⟨#[10]⟩ ++ nm ++ ⟨#[32]⟩ ++ decS kd ++ ⟨#[32]⟩ ++ fromT fr ++ ⟨#[32]⟩ ++ ptrT ⟨pa, pb, pc⟩ := by
      rw [hr1]; unfold setL; simp only [ByteArray.append_assoc]
     refine goh (And.intro hs0 (And.intro hk (And.intro nt hs1))) ?_
     refine W_cnd ?_ ?_ <;> intro hlit <;> try (cases hlit; done)
     repeat' first
      | with_reducible refine red ?_
      | refine W_seq ?_
      | (refine W_reg (s_specCoreRoot_K.env []) s_specCoreRoot_lv fun K' hK' => ?_
         simp only [go_sem, hs0, kr, ByteArray.size_append, s1, s2, ↓reduceIte, ↓reduceDIte, reduceCtorEq, Nat.reduceAdd, Nat.reduceMul, Nat.reduceSub, Nat.reduceDiv, Nat.reduceMod, Nat.reduceLT, Nat.reduceLeDiff, Nat.reduceEqDiff, Nat.reduceBEq, Int.reduceToNat, Int.reduceLE, Int.reduceLT, Int.reduceEq, Int.reduceNe, Int.reduceNeg]
         (repeat' refine And.intro ?_ ?_) <;> try first | with_reducible refine hK' ?_ | exact shut6)
      | with_reducible refine blockG_o (by decide) ?_
     exact ⟨[some 0], by omega, leh hr2, hgood (by unfold csetBad; rw [hk]; rfl)⟩
  ·obtain rfl : i = cs.length := by omega
   have hsz := rootS_in (i := cs.length) f1 hb
   rw [List.take_length] at hb hsz
   obtain ⟨Q, hQ⟩ : ∃ Q : Nat → ByteArray, Q = fun i => rootPs (rootS cs) (ps.take i) := ⟨_, rfl⟩
   have q0 : R cs.length = Q 0 := by rw [hR, hQ]; simp only [List.take_length]; rfl
   refine goh q0 ?_
   refine W_for ps.length (fun i => (ps.take i).any partBad = false) (fun i => ⟨[(1, .one (.ptr 0 0)), (3, vs (Q i)), (6, vi i)], [some (obCo x cs es ps y zs u)], []⟩) [some 0] (leh trivial) rfl fun i hi hb2 => ?_
   refine goh trivial ?_
   refine W_cnd ?_ ?_ <;> (try simp only [cnd_r]) <;> intro hlt2
   ·have hi' : i < ps.length := by omega
    have hbad := any_one (f := partBad) ET.ptr.dflt hi'
    have hgood := any_more (f := partBad) ET.ptr.dflt hi' hb2
    have hr1 : Q (i + 1) = Q i ++ partL (ps.getD i ET.ptr.dflt) := by rw [hQ]; exact rootPs_at hi'
    have hrz : (Q i).size ≤ 240000004 := by rw [hQ]; exact rootPs_in f3 hsz
    obtain ⟨s, hs0⟩ : ∃ s, ps.getD i ET.ptr.dflt = s := ⟨_, rfl⟩
    rw [hs0] at hbad hgood hr1
    obtain ⟨pa, pb, pc⟩ := s
    cases hk : ptrOkB ⟨pa, pb, pc⟩ with
    | false =>
      have e := rootT_bad2 (ps := ps) hb (hbad (by unfold partBad realB; rw [hk]; rfl))
      refine goh (And.intro hs0 (And.intro hk nf)) ?_
      refine W_cnd ?_ ?_ <;> intro hlit <;> try (cases hlit; done)
      refine goh trivial ?_
      exact finh [] e
    | true =>
      have z2 := ptrT_fine ⟨pa, pb, pc⟩
      have s1 : (⟨#[10, 46, 32]⟩ : ByteArray).size = 3 := rfl
      have hr2 : Q (i + 1) = Q i ++ ⟨#[10, 46, 32]⟩ ++ ptrT ⟨pa, pb, pc⟩ := by rw [hr1]; unfold partL; simp only [ByteArray.append_assoc]
      refine goh (And.intro hs0 (And.intro hk nt)) ?_
      refine W_cnd ?_ ?_ <;> (try simp only [cnd_r]) <;> intro h0
      ·have e := rootT_bad2 (ps := ps) hb (hbad (by unfold partBad realB; rw [hk]; simp only; rw [h0]; rfl))
       refine goh trivial ?_
       exact finh [] e
      ·simp only [beq_eq_false_iff_ne, ne_eq] at h0
       repeat' first
        | with_reducible refine red ?_
        | refine W_seq ?_
        | (refine W_reg (s_specCoreRoot_K.env []) s_specCoreRoot_lv fun K' hK' => ?_
           simp only [go_sem, hs0, ByteArray.size_append, s1, ↓reduceIte, ↓reduceDIte, reduceCtorEq, Nat.reduceAdd, Nat.reduceMul, Nat.reduceSub, Nat.reduceDiv, Nat.reduceMod, Nat.reduceLT, Nat.reduceLeDiff, Nat.reduceEqDiff, Nat.reduceBEq, Int.reduceToNat, Int.reduceLE, Int.reduceLT, Int.reduceEq, Int.reduceNe, Int.reduceNeg]
           (repeat' refine And.intro ?_ ?_) <;> try first | with_reducible refine hK' ?_ | exact shut6)
        | with_reducible refine blockG_o (by decide) ?_
       exact ⟨[some 0], by omega, leh hr2, hgood (by unfold partBad realB; rw [hk]; simp [h0])⟩
   ·obtain rfl : i = ps.length := by omega
    rw [List.take_length] at hb2
    have e : rootT cs ps = Q ps.length := by rw [rootT_good hb hb2, hQ]; simp only [List.take_length]
    refine goh trivial ?_
    exact finh [] e
 ·simp [no, ifp] at hp
end Go.Proofs.YtfmjgoeclilcnaaGreatDoor
namespace Go.Proofs.YtfmjgoeclilcnaaGreatDoor
open Go.RowKit
theorem rd_app (f : ByteArray → Option (CSet ⊕ Ptr)) : ∀ (ls ms : List ByteArray) (a : List CSet × List Ptr), rdLines f (ls ++ ms) a = (match rdLines f ls a with | some b => rdLines f ms b | none => none)
 | [], ms, a => by simp [rdLines]
 | l :: ls, ms, a => by
   rw [List.cons_append, rdLines, rdLines]
   cases f l with
   | none => rfl
   | some z =>
     cases z with
     | inl s => exact rd_app f ls ms _
     | inr p => exact rd_app f ls ms _
theorem rd_one (f : ByteArray → Option (CSet ⊕ Ptr)) (l : ByteArray) (a : List CSet × List Ptr) : rdLines f [l] a = (match f l with | some (.inl s) => some (a.1 ++ [s], a.2) | some (.inr p) => some (a.1, a.2 ++ [p]) | none => none) := by
 unfold rdLines
 split <;> simp_all [rdLines]
noncomputable def rdAt (f : ByteArray → Option (CSet ⊕ Ptr)) (ls : List ByteArray) (i : Nat) : List CSet × List Ptr := (rdLines f (ls.take i) ([], [])).getD ([], [])
section
variable {f : ByteArray → Option (CSet ⊕ Ptr)} {ls : List ByteArray} {i : Nat} {l : ByteArray}
theorem rd_zero : rdLines f (ls.take 0) ([], []) = some (rdAt f ls 0) := rfl
theorem rd_take (hi : i < ls.length) (hl : ls.getD i ET.str.dflt = l) : ls.take (i + 1) = ls.take i ++ [l] := by
 rw [List.take_add_one, List.getElem?_eq_getElem hi, ← hl, show ls.getD i ET.str.dflt = ls[i] by simp [hi]]; rfl
theorem rd_stop (hi : i < ls.length) (hl : ls.getD i ET.str.dflt = l) (h : rdLines f (ls.take i) ([], []) = some (rdAt f ls i)) (hn : f l = none) : rdLines f ls ([], []) = none := by
 have e : ls = ls.take (i + 1) ++ ls.drop (i + 1) := (List.take_append_drop ..).symm
 rw [e, rd_app, rd_take hi hl, rd_app, h]
 simp only [rd_one, hn]
theorem rd_set (hi : i < ls.length) (hl : ls.getD i ET.str.dflt = l) (h : rdLines f (ls.take i) ([], []) = some (rdAt f ls i)) {s : CSet} (hs : f l = some (.inl s)) :
  rdLines f (ls.take (i + 1)) ([], []) = some (rdAt f ls (i + 1)) ∧ (rdAt f ls (i + 1)).1 = (rdAt f ls i).1 ++ [s] ∧ (rdAt f ls (i + 1)).2 = (rdAt f ls i).2 := by
 have e : rdLines f (ls.take (i + 1)) ([], []) = some ((rdAt f ls i).1 ++ [s], (rdAt f ls i).2) := by
  rw [rd_take hi hl, rd_app, h]
  simp only [rd_one, hs]
 have e2 : rdAt f ls (i + 1) = ((rdAt f ls i).1 ++ [s], (rdAt f ls i).2) := by
  rw [rdAt, e]; rfl
 exact ⟨by rw [e, e2], by rw [e2], by rw [e2]⟩
theorem rd_part (hi : i < ls.length) (hl : ls.getD i ET.str.dflt = l) (h : rdLines f (ls.take i) ([], []) = some (rdAt f ls i)) {p : Ptr} (hs : f l = some (.inr p)) :
  rdLines f (ls.take (i + 1)) ([], []) = some (rdAt f ls (i + 1)) ∧ (rdAt f ls (i + 1)).1 = (rdAt f ls i).1 ∧ (rdAt f ls (i + 1)).2 = (rdAt f ls i).2 ++ [p] := by
 have e : rdLines f (ls.take (i + 1)) ([], []) = some ((rdAt f ls i).1, (rdAt f ls i).2 ++ [p]) := by
  rw [rd_take hi hl, rd_app, h]
  simp only [rd_one, hs]
 have e2 : rdAt f ls (i + 1) = ((rdAt f ls i).1, (rdAt f ls i).2 ++ [p]) := by
  rw [rdAt, e]; rfl
 exact ⟨by rw [e, e2], by rw [e2], by rw [e2]⟩
theorem rd_end (h : rdLines f (ls.take ls.length) ([], []) = some (rdAt f ls ls.length)) : rdLines f ls ([], []) = some (rdAt f ls ls.length) := by rwa [List.take_length] at h
theorem rd_few (k : Nat) (hk : ∀ l ∈ ls, ∀ s, f l = some (.inl s) → s.name.size ≤ k ∧ s.from_.size ≤ k) : ∀ (a b : List CSet × List Ptr), rdLines f ls a = some b → (∀ s ∈ a.1, s.name.size ≤ k ∧ s.from_.size ≤ k) → (∀ s ∈ b.1, s.name.size ≤ k ∧ s.from_.size ≤ k) ∧ b.1.length + b.2.length = a.1.length + a.2.length + ls.length := by
 induction ls with
 | nil => intro a b h ha; simp only [rdLines, Option.some.injEq] at h; subst h; exact ⟨ha, rfl⟩
 | cons l ls ih =>
   intro a b h ha
   have ih := ih fun l hl => hk l (List.mem_cons_of_mem _ hl)
   unfold rdLines at h
   split at h
   ·rename_i s hs
    obtain ⟨h1, h2⟩ := ih _ _ h fun q hq => by
     rcases List.mem_append.1 hq with hq | hq
     ·exact ha q hq
     ·simp only [List.mem_singleton] at hq
      subst hq; exact hk l (List.mem_cons_self ..) _ hs
    exact ⟨h1, by rw [h2]; simp; omega⟩
   ·obtain ⟨h1, h2⟩ := ih _ _ h ha
    exact ⟨h1, by rw [h2]; simp; omega⟩
   ·cases h
theorem rdAt_few (k : Nat) (hk : ∀ l ∈ ls, ∀ s, f l = some (.inl s) → s.name.size ≤ k ∧ s.from_.size ≤ k) (h : rdLines f (ls.take i) ([], []) = some (rdAt f ls i)) : (∀ j : Nat, ((rdAt f ls i).1.getD j ET.cset.dflt).name.size ≤ k ∧ ((rdAt f ls i).1.getD j ET.cset.dflt).from_.size ≤ k) ∧ (rdAt f ls i).1.length + (rdAt f ls i).2.length ≤ i := by
 obtain ⟨h1, h2⟩ := rd_few k (fun l hl => hk l (List.mem_of_mem_take hl)) _ _ h (by simp)
 refine ⟨fun j => ?_, by rw [h2, List.length_take]; simp; omega⟩
 rcases Nat.lt_or_ge j (rdAt f ls i).1.length with hj | hj
 ·rw [show (rdAt f ls i).1.getD j ET.cset.dflt = (rdAt f ls i).1[j] by simp [hj]]
  exact h1 _ (List.getElem_mem _)
 ·rw [show (rdAt f ls i).1.getD j ET.cset.dflt = ET.cset.dflt by simp [List.getElem?_eq_none hj]]
  exact ⟨Nat.zero_le _, Nat.zero_le _⟩
end
theorem dash_size (s : ByteArray) : (dash s).size ≤ s.size := by
 unfold dash
 split
 ·exact Nat.zero_le _
 ·exact Nat.le_refl _
theorem lineI_size {l : ByteArray} {k : Nat} (hl : l.size ≤ k) (hw : ∀ w ∈ splitV 32 l, w.size ≤ l.size) {s : CSet} (h : lineI l = some (.inl s)) : s.name.size ≤ k ∧ s.from_.size ≤ k := by
 unfold lineI at h
 split at h
 ·split at h
  ·cases hp : ptrReadV _ with
   | none => rw [hp] at h; cases h
   | some p => rw [hp] at h; cases h
  ·cases h
 ·rename_i a b c d he
  split at h
  ·simp only [Option.some.injEq, Sum.inl.injEq] at h
   subst h
   rw [he] at hw
   have h1 := hw a (by simp)
   have h2 := hw c (by simp)
   have h3 := dash_size c
   exact ⟨Nat.le_trans h1 hl, Nat.le_trans (Nat.le_trans h3 h2) hl⟩
  ·cases h
 ·cases h
theorem lineS_size {l : ByteArray} {k : Nat} (hl : l.size ≤ k) (hw : ∀ w ∈ splitV 32 l, w.size ≤ l.size) {s : CSet} (h : lineS l = some (.inl s)) : s.name.size ≤ k ∧ s.from_.size ≤ k := by
 unfold lineS at h
 split at h
 ·split at h
  ·cases hp : ptrReadV _ with
   | none => rw [hp] at h; cases h
   | some p => rw [hp] at h; cases h
  ·cases h
 ·rename_i a b c d he
  split at h
  ·simp only [Option.some.injEq, Sum.inl.injEq] at h
   subst h
   rw [he] at hw
   have h1 := hw a (by simp)
   have h2 := hw c (by simp)
   have h3 := dash_size c
   exact ⟨Nat.le_trans h1 hl, Nat.le_trans (Nat.le_trans h3 h2) hl⟩
  ·cases h
 ·cases h
theorem root_no {f : ByteArray → Option (CSet ⊕ Ptr)} (hf : Reads f) {t l0 : ByteArray} {ls : List ByteArray} (hl : splitV 10 t = l0 :: ls) (h : rdLines f ls ([], []) = none) : rootR t = none := by
 rw [rootR_rd hf hl, h]
theorem root_bad {f : ByteArray → Option (CSet ⊕ Ptr)} (hf : Reads f) {t l0 : ByteArray} {ls : List ByteArray} (hl : splitV 10 t = l0 :: ls) {r : List CSet × List Ptr} (h : rdLines f ls ([], []) = some r) (hn : ¬ (r.2.length ≤ 8 ∧ bookB (frameOf r.1) = true ∧ rootT r.1 r.2 = t)) : rootR t = none := by
 rw [rootR_rd hf hl, h]
 simp only
 rw [if_neg hn]
theorem root_good {f : ByteArray → Option (CSet ⊕ Ptr)} (hf : Reads f) {t l0 : ByteArray} {ls : List ByteArray} (hl : splitV 10 t = l0 :: ls) {r : List CSet × List Ptr} (h : rdLines f ls ([], []) = some r) (hn : r.2.length ≤ 8 ∧ bookB (frameOf r.1) = true ∧ rootT r.1 r.2 = t) : rootR t = some r := by
 rw [rootR_rd hf hl, h]
 simp only
 rw [if_pos hn]
theorem word_mem {ws : List ByteArray} {i : Nat} (h : i < ws.length) : ws.getD i ET.str.dflt ∈ ws := by
 rw [show ws.getD i ET.str.dflt = ws[i] by simp [h]]
 exact List.getElem_mem _
end Go.Proofs.YtfmjgoeclilcnaaGreatDoor
namespace Go.Proofs.YtfmjgoeclilcnaaGreatDoor
open Go.RowKit
theorem lineI_two {l a b : ByteArray} (h : splitV 32 l = [a, b]) : lineI l = if a = ⟨#[46]⟩ then (ptrReadV b).map .inr else none := by unfold lineI; rw [h]
theorem lineI_four {l a b c d : ByteArray} (h : splitV 32 l = [a, b, c, d]) : lineI l = (match ptrReadV d, atoiV b with
  | some p, some k => some (.inl (csetMk a k c p))
  | _, _ => none) := by unfold lineI; rw [h]; rfl
theorem lineI_other {l : ByteArray} {ws : List ByteArray} (h : splitV 32 l = ws) (h2 : ws.length ≠ 2) (h4 : ws.length ≠ 4) : lineI l = none := by
 unfold lineI
 rw [h]
 match ws, h2, h4 with
 | [], _, _ => rfl
 | [_], _, _ => rfl
 | [_, _, _], _, _ => rfl
 | _ :: _ :: _ :: _ :: _ :: _, _, _ => rfl
 | [_, _], h2, _ => exact absurd rfl h2
 | [_, _, _, _], _, h4 => exact absurd rfl h4
theorem split_some (c : UInt8) (t : ByteArray) : 0 < (splitV c t).length := by
 unfold splitV
 rw [List.length_map]
 exact List.length_pos_iff.2 (cutL_ne c _)
@[go_sem] noncomputable def ctRootLine : Ct := ⟨true, [], fun args os => match args, os with
  | [.one (.ptr 0 0), .one (.val (.string t))], [.cells [.val (.int .i64 x), .osl .cset 1 0 n1, .val e1, .osl .ptr 2 0 n3, .val (.bool y), .val e2, .val (.int .i64 u)], .arr .cset cs, .arr .ptr ps] =>
    (match lineI t with
     | some (.inl s) => ⟨(t.size ≤ 1000000 ∧ cs.length ≤ 1000000 ∧ ps.length ≤ 1000000) ∧ n1 = cs.length ∧ n3 = ps.length, vb true, [(0, some (.cells [.val (.int .i64 x), .osl .cset 3 0 (n1 + 1), .val e1, .osl .ptr 2 0 n3, .val (.bool y), .val e2, .val (.int .i64 u)])), (1, none)], [.arr .cset (cs ++ [s])]⟩
     | some (.inr p) => ⟨(t.size ≤ 1000000 ∧ cs.length ≤ 1000000 ∧ ps.length ≤ 1000000) ∧ n1 = cs.length ∧ n3 = ps.length, vb true, [(0, some (.cells [.val (.int .i64 x), .osl .cset 1 0 n1, .val e1, .osl .ptr 3 0 (n3 + 1), .val (.bool y), .val e2, .val (.int .i64 u)])), (2, none)], [.arr .ptr (ps ++ [p])]⟩
     | none => ⟨(t.size ≤ 1000000 ∧ cs.length ≤ 1000000 ∧ ps.length ≤ 1000000) ∧ n1 = cs.length ∧ n3 = ps.length, vb false, [(0, some (.cells [.any, .any, .any, .any, .any, .any, .any])), (1, none), (2, none)], []⟩)
  | _, _ => no⟩
theorem s_rootLine_e : EnterOk Tryz.prog 131 := ⟨_, Tryz.func131, rfl, by decide⟩
@[go_sem] def s_rootLine_lv : List (List Nat) := [[0, 1], [0, 5], [0, 5, 6, 7], [0, 5, 6, 23], [4], [0, 5, 6, 26], [], [4], [0, 5, 6, 46], [4], [0, 5, 6, 8, 9], [0, 5, 6, 8, 9, 10], [0, 5, 6, 8, 9, 10, 61], [0, 5, 6, 8, 9, 10], [9], [4]]
@[go_sem] noncomputable def s_rootLine_K : Known := (((Known.nil).cons 130 ctSplit s_split s_split_e).cons 135 ctPtrRead s_ptrRead s_ptrRead_e).cons 184 ctAtoi s_atoi s_atoi_e
set_option maxHeartbeats 8000000 in
theorem s_rootLine : Sound Tryz.prog 131 ctRootLine := by
 have ke := s_rootLine_K.env []
 have kl : Lives s_rootLine_lv := trivial
 refine sound_intro (E := ⟨ti, s_rootLine_K.Γ, []⟩) ke Tryz.func131 Tryz.ntmps131 rfl (rs := [.tmp 4]) rfl ?_
 intro args os hp
 unfold ctRootLine at hp ⊢
 dsimp only at hp ⊢
 split at hp
 ·rename_i t x n1 e1 n3 y e2 u cs ps
  have hp' : (t.size ≤ 1000000 ∧ cs.length ≤ 1000000 ∧ ps.length ≤ 1000000) ∧ n1 = cs.length ∧ n3 = ps.length := by
   cases h : lineI t with
   | none => rw [h] at hp; exact hp
   | some z => cases z <;> (rw [h] at hp; exact hp)
  clear hp
  obtain ⟨⟨hlen, f1, f3⟩, rfl, rfl⟩ := hp'
  refine ⟨by simp, fun φ0 w0 => ?_⟩
  have h32 : (⟨#[32]⟩ : ByteArray).data.getD 0 0 = 32 := rfl
  have hsz : (⟨#[32]⟩ : ByteArray).size = 1 := rfl
  have nt : (!true) = false := rfl
  have nf : (!false) = true := rfl
  have hwl := splitV_len 32 t
  have hpos := split_some 32 t
  have hms : ∀ w ∈ splitV 32 t, w.size ≤ 1000000 := fun w h => Nat.le_trans (splitV_size h) hlen
  have tc : cs.take cs.length = cs := List.take_length
  have tp : ps.take ps.length = ps := List.take_length
  obtain ⟨ws, hws⟩ : ∃ ws, splitV 32 t = ws := ⟨_, rfl⟩
  rw [hws] at hms hwl hpos
  by_cases h2 : ws.length = 2
  ·match ws, h2 with
   | [a, b], _ =>
   have e := lineI_two hws
   have m1 := hms b (by simp)
   have w1 : IntKind.i64.wrap (2 - 1) = 1 := rfl
   cases hr : ptrReadV b with
   | none =>
     have e : lineI t = none := by rw [e, hr]; split <;> rfl
     refine goh (And.intro h32 (And.intro hsz (And.intro hws (And.intro w1 (And.intro hr (And.intro m1 nf)))))) ?_
     refine W_cnd ?_ ?_ <;> intro hlit <;> try (cases hlit; done)
     refine goh trivial ?_
     exact finh [some 0, some 1, some 2] e
   | some p =>
     obtain ⟨pa, pb, pc⟩ := p
     cases hs : same a ⟨#[46]⟩ with
     | true =>
       have e : lineI t = some (.inr ⟨pa, pb, pc⟩) := by rw [e, hr, if_pos (same_true.1 hs)]; rfl
       refine goh (And.intro h32 (And.intro hsz (And.intro hws (And.intro w1 (And.intro hr (And.intro m1 nt)))))) ?_
       refine W_cnd ?_ ?_ <;> intro hlit <;> try (cases hlit; done)
       refine goh hs ?_
       refine W_cnd ?_ ?_ <;> intro hlit <;> try (cases hlit; done)
       refine goh tp ?_
       exact finh [some 0, some 1, some 2, some 6] e
     | false =>
       have e : lineI t = none := by rw [e, if_neg (same_false.1 hs)]
       refine goh (And.intro h32 (And.intro hsz (And.intro hws (And.intro w1 (And.intro hr (And.intro m1 nt)))))) ?_
       refine W_cnd ?_ ?_ <;> intro hlit <;> try (cases hlit; done)
       refine goh hs ?_
       refine W_cnd ?_ ?_ <;> intro hlit <;> try (cases hlit; done)
       refine goh trivial ?_
       refine W_cnd ?_ ?_ <;> intro hlit <;> try (cases hlit; done)
       refine goh trivial ?_
       exact finh [some 0, some 1, some 2] e
  by_cases h4 : ws.length = 4
  ·match ws, h4 with
   | [a, b, c, d], _ =>
   have e := lineI_four hws
   have m3 := hms d (by simp)
   have m1 := hms b (by simp)
   have w3 : IntKind.i64.wrap (4 - 1) = 3 := rfl
   have c2 : ((4 : Int) == 2) = false := rfl
   have c4 : ((4 : Int) != 4) = false := rfl
   cases hr : ptrReadV d with
   | none =>
     have e : lineI t = none := by rw [e, hr]
     refine goh (And.intro h32 (And.intro hsz (And.intro hws (And.intro w3 (And.intro hr (And.intro m3 nf)))))) ?_
     refine W_cnd ?_ ?_ <;> intro hlit <;> try (cases hlit; done)
     refine goh trivial ?_
     exact finh [some 0, some 1, some 2] e
   | some p =>
     obtain ⟨pa, pb, pc⟩ := p
     refine goh (And.intro h32 (And.intro hsz (And.intro hws (And.intro w3 (And.intro hr (And.intro m3 nt)))))) ?_
     refine W_cnd ?_ ?_ <;> intro hlit <;> try (cases hlit; done)
     refine goh c2 ?_
     refine W_cnd ?_ ?_ <;> intro hlit <;> try (cases hlit; done)
     refine goh c4 ?_
     refine W_cnd ?_ ?_ <;> intro hlit <;> try (cases hlit; done)
     cases hn : atoiV b with
     | none =>
       have e : lineI t = none := by rw [e, hr, hn]
       refine goh (And.intro hn m1) ?_
       refine W_cnd ?_ ?_ <;> (try simp only [cnd_r]) <;> intro hd
       ·refine goh tc ?_
        exact finh [some 0, some 1, some 2] e
       ·refine goh tc ?_
        exact finh [some 0, some 1, some 2] e
     | some k =>
       have e : lineI t = some (.inl (csetMk a k c ⟨pa, pb, pc⟩)) := by rw [e, hr, hn]
       refine goh (And.intro hn m1) ?_
       refine W_cnd ?_ ?_ <;> (try simp only [cnd_r]) <;> intro hd
       ·have e : lineI t = some (.inl ⟨a, k, ⟨#[]⟩, Eight.rep Ptr.zero, ⟨pa, pb, pc⟩, false⟩) := by rw [e]; unfold csetMk dash; rw [if_pos hd]
        refine goh (And.intro tc (((atoiV_in hn).1))) ?_
        exact finh [some 0, some 1, some 2, some 6] e
       ·have e : lineI t = some (.inl ⟨a, k, c, Eight.rep Ptr.zero, ⟨pa, pb, pc⟩, false⟩) := by rw [e]; unfold csetMk dash; rw [if_neg hd]
        refine goh (And.intro tc (((atoiV_in hn).1))) ?_
        exact finh [some 0, some 1, some 2, some 6] e
  have e := lineI_other hws h2 h4
  obtain ⟨k, hk⟩ : ∃ k, ws.length = k + 1 := ⟨ws.length - 1, by omega⟩
  have w1 : IntKind.i64.wrap ((ws.length : Int) - 1) = (k : Int) := by rw [hk, wrap_id] <;> omega
  have c2 : ((ws.length : Int) == 2) = false := by simp; omega
  have c4 : ((ws.length : Int) != 4) = true := by simp; omega
  have m1 := hms _ (word_mem (show k < ws.length by omega))
  cases hr : ptrReadV (ws.getD k ET.str.dflt) with
  | none =>
    refine goh (And.intro h32 (And.intro hsz (And.intro hws (And.intro w1 (And.intro hr (And.intro m1 nf)))))) ?_
    refine W_cnd ?_ ?_ <;> intro hlit <;> try (cases hlit; done)
    refine goh trivial ?_
    exact finh [some 0, some 1, some 2] e
  | some p =>
    obtain ⟨pa, pb, pc⟩ := p
    refine goh (And.intro h32 (And.intro hsz (And.intro hws (And.intro w1 (And.intro hr (And.intro m1 nt)))))) ?_
    refine W_cnd ?_ ?_ <;> intro hlit <;> try (cases hlit; done)
    refine goh c2 ?_
    refine W_cnd ?_ ?_ <;> intro hlit <;> try (cases hlit; done)
    refine goh c4 ?_
    refine W_cnd ?_ ?_ <;> intro hlit <;> try (cases hlit; done)
    refine goh trivial ?_
    exact finh [some 0, some 1, some 2] e
 ·simp [no] at hp
end Go.Proofs.YtfmjgoeclilcnaaGreatDoor
namespace Go.Proofs.YtfmjgoeclilcnaaGreatDoor
open Go.RowKit
theorem fit_of {S : List CSet} {R : List Ptr} {k : Nat} (h1 : ∀ j : Nat, (S.getD j ET.cset.dflt).name.size ≤ k ∧ (S.getD j ET.cset.dflt).from_.size ≤ k) (h2 : S.length + R.length ≤ 4000000) (hk : k ≤ 9223372036854775807) : (Co.mk 0 S [] R false [] 0).fit :=
 ⟨⟨by simp only; omega, by simp, by simp only; omega, by simp⟩, fun i => ⟨Nat.le_trans (h1 i).1 hk, Nat.le_trans (h1 i).2 hk⟩⟩
@[go_sem] noncomputable def ctRootR : Ct := ⟨false, [], fun args os => match args, os with
  | [.one (.val (.string t))], [] => ⟨t.size ≤ 1000000, .tup [.agg [.val (.int .i64 0), .osl .cset 0 0 ((rootR t).getD ([], [])).1.length, .val (.slice none 0 0), .osl .ptr 1 0 ((rootR t).getD ([], [])).2.length, .val (.bool false), .val (.slice none 0 0), .val (.int .i64 0)], vb (rootR t).isSome], [], [.arr .cset ((rootR t).getD ([], [])).1, .arr .ptr ((rootR t).getD ([], [])).2]⟩
  | _, _ => no⟩
theorem s_coreRootRead_e : EnterOk Tryz.prog 58 := ⟨_, Tryz.func58, rfl, by decide⟩
@[go_sem] def s_coreRootRead_lv : List (List Nat) := [[0, 2], [0, 2, 10], [2, 3], [0, 2, 4], [0, 2, 4, 5], [0, 2, 5, 15, 16, 17], [0, 2, 5, 15, 16, 17, 18], [0, 2, 5, 7, 15, 16, 17], [0, 2, 5, 15, 16, 17, 23], [2, 3], [0, 2, 5, 15, 16, 17], [2, 5, 41], [2, 3], [2, 3]]
@[go_sem] noncomputable def s_coreRootRead_K : Known := (((((Known.nil).cons 130 ctSplit s_split s_split_e).cons 131 ctRootLine s_rootLine s_rootLine_e).cons 133 ctFrame s_frame s_frame_e).cons 132 ctBookOk s_bookOk s_bookOk_e).cons 134 ctRootT s_coreRoot s_coreRoot_e
set_option maxHeartbeats 8000000 in
theorem s_coreRootRead : Sound Tryz.prog 58 ctRootR := by
 have ke := s_coreRootRead_K.env []
 have kl : Lives s_coreRootRead_lv := trivial
 refine sound_intro (E := ⟨ti, s_coreRootRead_K.Γ, []⟩) ke Tryz.func58 Tryz.ntmps58 rfl (rs := [.cell 2 43, .tmp 3]) rfl ?_
 intro args os hp
 unfold ctRootR at hp ⊢
 dsimp only at hp ⊢
 split at hp
 ·rename_i t
  refine ⟨by simp, fun φ0 w0 => ?_⟩
  have hlen : t.size ≤ 1000000 := hp
  have h10 : (⟨#[10]⟩ : ByteArray).data.getD 0 0 = 10 := rfl
  have hsz : (⟨#[10]⟩ : ByteArray).size = 1 := rfl
  have nt : (!true) = false := rfl
  have nf : (!false) = true := rfl
  have hwl := splitV_len 10 t
  by_cases hz : 420 < t.size
  ·have e := rootR_long hz
   have c1 : decide ((t.size : Int) > 420) = true := by simp; omega
   refine goh c1 ?_
   refine W_cnd ?_ ?_ <;> intro hlit <;> try (cases hlit; done)
   refine goh trivial ?_
   exact finh [none, none] e
  have c1 : decide ((t.size : Int) > 420) = false := by simp; omega
  have hms : ∀ w ∈ splitV 10 t, w.size ≤ 420 := fun w h => Nat.le_trans (splitV_size h) (by omega)
  have hpos := split_some 10 t
  obtain ⟨xs, hxs⟩ : ∃ xs, splitV 10 t = xs := ⟨_, rfl⟩
  rw [hxs] at hms hwl hpos
  obtain ⟨l0, ls, hls⟩ : ∃ l0 ls, xs = l0 :: ls := by
   match xs, hpos with
   | l0 :: ls, _ => exact ⟨l0, ls, rfl⟩
  have hxl : xs.length = ls.length + 1 := by rw [hls]; rfl
  have hxd : ∀ i : Nat, xs.getD (1 + i) ET.str.dflt = ls.getD i ET.str.dflt := fun i => by rw [hls, Nat.add_comm]; rfl
  have hsp := hxs.trans hls
  have hll : ∀ w ∈ ls, w.size ≤ 420 := fun w h => hms w (by rw [hls]; exact List.mem_cons_of_mem _ h)
  clear hls hms
  have hrl : ∀ l ∈ ls, ∀ s, lineI l = some (.inl s) → s.name.size ≤ 420 ∧ s.from_.size ≤ 420 := fun l hl s hs => lineI_size (hll l hl) (fun w hw => splitV_size hw) hs
  obtain ⟨S, hS⟩ : ∃ S : Nat → List CSet, S = fun i => (rdAt lineI ls i).1 := ⟨_, rfl⟩
  obtain ⟨R, hR⟩ : ∃ R : Nat → List Ptr, R = fun i => (rdAt lineI ls i).2 := ⟨_, rfl⟩
  have s0 : S 0 = [] := by rw [hS]; rfl
  have r0 : R 0 = [] := by rw [hR]; rfl
  have w1 : IntKind.i64.wrap ((xs.length : Int) - 1) = (ls.length : Int) := by rw [hxl, wrap_id] <;> omega
  refine goh c1 ?_
  refine W_cnd ?_ ?_ <;> intro hlit <;> try (cases hlit; done)
  refine goh (And.intro h10 (And.intro hsz (And.intro hxs hxl))) ?_
  refine W_for ls.length (fun i => rdLines lineI (ls.take i) ([], []) = some (rdAt lineI ls i)) (fun i => ⟨[(0, vs t), (2, .one (.ptr 0 0)), (5, .one (.ptr 2 0)), (15, .one (.osl .str 1 1 ls.length)), (16, vi ls.length), (17, vi i)], [some (.cells [.val (.int .i64 0), .val (.slice none 0 0), .val (.slice none 0 0), .val (.slice none 0 0), .val (.bool false), .val (.slice none 0 0), .val (.int .i64 0)]), some (.arr .str xs), some (.cells [.val (.int .i64 0), .osl .cset 3 0 (S i).length, .val (.slice none 0 0), .osl .ptr 4 0 (R i).length, .val (.bool false), .val (.slice none 0 0), .val (.int .i64 0)]), some (.arr .cset (S i)), some (.arr .ptr (R i))], []⟩) [some 0, some 1, some 2, none, none] (leh (And.intro s0 r0)) rd_zero fun i hi hI => ?_
  have hfew := rdAt_few 420 hrl hI
  refine goh trivial ?_
  refine W_cnd ?_ ?_ <;> (try simp only [cnd_r]) <;> intro hlt
  ·have hi' : i < ls.length := by omega
   have hget := hxd i
   have hm := hll _ (word_mem hi')
   have hm1 : (ls.getD i ET.str.dflt).size ≤ 1000000 := by omega
   obtain ⟨l, hl⟩ : ∃ l, ls.getD i ET.str.dflt = l := ⟨_, rfl⟩
   have hSi : (rdAt lineI ls i).1 = S i := by rw [hS]
   have hRi : (rdAt lineI ls i).2 = R i := by rw [hR]
   rw [hSi, hRi] at hfew
   have hS1 : (S i).length ≤ 1000000 := by omega
   have hR1 : (R i).length ≤ 1000000 := by omega
   rw [hl] at hget hm1
   cases hk : lineI l with
   | none =>
     have e := root_no reads_I hsp (rd_stop hi' hl hI hk)
     refine goh (And.intro hget (And.intro hk (And.intro hm1 (And.intro hS1 (And.intro hR1 nf))))) ?_
     refine W_cnd ?_ ?_ <;> intro hlit <;> try (cases hlit; done)
     refine goh trivial ?_
     exact finh [none, none] e
   | some z =>
     cases z with
     | inl s =>
       obtain ⟨k1, k2, k3⟩ := rd_set hi' hl hI hk
       have q1 : S (i + 1) = S i ++ [s] := by rw [hS]; exact k2
       have q2 : R (i + 1) = R i := by rw [hR]; exact k3
       have q3 : (S i ++ [s]).length = (S i).length + 1 := by simp
       refine goh (And.intro hget (And.intro hk (And.intro hm1 (And.intro hS1 (And.intro hR1 nt))))) ?_
       refine W_cnd ?_ ?_ <;> intro hlit <;> try (cases hlit; done)
       refine goh trivial ?_
       exact ⟨[some 0, some 1, some 2, some 5, some 4], by omega, leh (And.intro q1 (And.intro q2 q3)), k1⟩
     | inr p =>
       obtain ⟨k1, k2, k3⟩ := rd_part hi' hl hI hk
       have q1 : S (i + 1) = S i := by rw [hS]; exact k2
       have q2 : R (i + 1) = R i ++ [p] := by rw [hR]; exact k3
       have q3 : (R i ++ [p]).length = (R i).length + 1 := by simp
       refine goh (And.intro hget (And.intro hk (And.intro hm1 (And.intro hS1 (And.intro hR1 nt))))) ?_
       refine W_cnd ?_ ?_ <;> intro hlit <;> try (cases hlit; done)
       refine goh trivial ?_
       exact ⟨[some 0, some 1, some 2, some 3, some 5], by omega, leh (And.intro q1 (And.intro q2 q3)), k1⟩
  ·obtain rfl : i = ls.length := by omega
   have hI' := rd_end hI
   have hb := fun h => root_bad reads_I hsp hI' h
   have hg := fun h => root_good reads_I hsp hI' h
   have hSi : rdAt lineI ls ls.length = (S ls.length, R ls.length) := by rw [hS, hR]
   rw [hSi] at hb hg hfew
   simp only at hb hg hfew
   obtain ⟨cs, hcs⟩ : ∃ cs, S ls.length = cs := ⟨_, rfl⟩
   obtain ⟨ps, hps⟩ : ∃ ps, R ls.length = ps := ⟨_, rfl⟩
   rw [hcs, hps] at hb hg hfew ⊢
   have hfit := fit_of hfew.1 (show cs.length + ps.length ≤ 4000000 by omega) (by omega)
   have hS1 : cs.length ≤ 4000000 := by omega
   have hR1 : ps.length ≤ 4000000 := by omega
   have hfl := frame_len cs
   have htk : (frameOf cs).take cs.length = frameOf cs := List.take_of_length_le (by omega)
   have hfs := frame_small hfit.sets
   simp only at hfs
   by_cases h8 : 8 < ps.length
   ·have e := hb fun h => by omega
    have c8 : decide ((ps.length : Int) > 8) = true := by simp; omega
    refine goh c8 ?_
    refine W_cnd ?_ ?_ <;> intro hlit <;> try (cases hlit; done)
    refine goh trivial ?_
    exact finh [none, none] e
   have c8 : decide ((ps.length : Int) > 8) = false := by simp; omega
   cases hbk : bookB (frameOf cs) with
   | false =>
     have e := hb fun h => by rw [hbk] at h; cases h.2.1
     refine goh (And.intro c8 (And.intro hS1 (And.intro hfl (And.intro htk (And.intro hfs (And.intro hbk nf)))))) ?_
     refine W_cnd ?_ ?_ <;> intro hlit <;> try (cases hlit; done)
     refine goh trivial ?_
     exact finh [none, none] e
   | true =>
     cases hst : same (rootT cs ps) t with
     | false =>
       have e := hb fun h => by rw [same_true.2 h.2.2] at hst; cases hst
       refine goh (And.intro c8 (And.intro hS1 (And.intro hfl (And.intro htk (And.intro hfs (And.intro hbk (And.intro nt (And.intro hfit (And.intro hst nf))))))))) ?_
       refine W_cnd ?_ ?_ <;> intro hlit <;> try (cases hlit; done)
       refine goh trivial ?_
       exact finh [none, none] e
     | true =>
       have e := hg ⟨by omega, hbk, same_true.1 hst⟩
       refine goh (And.intro c8 (And.intro hS1 (And.intro hfl (And.intro htk (And.intro hfs (And.intro hbk (And.intro nt (And.intro hfit hst)))))))) ?_
       refine W_cnd ?_ ?_ <;> intro hlit <;> try (cases hlit; done)
       refine goh trivial ?_
       exact finh [some 3, some 4] e
 ·simp [no] at hp
end Go.Proofs.YtfmjgoeclilcnaaGreatDoor
namespace Go.Proofs.YtfmjgoeclilcnaaGreatDoor
open Go.RowKit
@[go_sem] noncomputable def ctRise : Ct := ⟨false, [[some .str, some .str, some .late]], fun args os => match args, os with
  | [.agg [.isl .str a, .isl .str b, .isl .late l]], [] => ⟨(Dk.mk a b l).small, .tup [(riseV ⟨a, b, l⟩).1.v 0, vi (riseV ⟨a, b, l⟩).2], [], (riseV ⟨a, b, l⟩).1.objs⟩
  | _, _ => no⟩
theorem s_rise_e : EnterOk Tryz.prog 17 := ⟨_, Tryz.func17, rfl, by decide⟩
@[go_sem] def s_rise_lv : List (List Nat) := [[1, 2], [1, 2, 4, 5, 6], [1, 2, 4, 5, 33], [2, 3], [1, 2, 4, 5, 7, 8], [1, 2, 4, 5, 6, 8, 9], [1, 2, 4, 5, 9, 51], [2, 3], [1, 2, 4, 5, 9, 55, 56], [1, 2, 4, 5, 9, 55, 56, 57], [1, 2, 4, 5, 9, 10, 55, 56], [1, 2, 4, 5, 9, 10, 11, 12, 55, 56], [1, 2, 4, 5, 9, 10, 12, 13, 14, 55, 56], [1, 2, 4, 5, 9, 10, 13, 55, 56, 80], [2, 3], [1, 2, 4, 5, 9, 55, 56], [1, 2, 4, 5, 9, 55, 56], [1, 2, 4, 5, 9, 90, 91, 92], [1, 2, 4, 5, 9, 90, 91, 92, 93], [1, 2, 4, 5, 9, 16, 90, 91, 92], [1, 2, 4, 5, 9, 17, 18, 90, 91, 92], [1, 2, 4, 5, 9, 18, 19, 20, 90, 91, 92], [1, 2, 4, 5, 9, 19, 90, 91, 92, 112], [2, 3], [1, 2, 4, 5, 9, 90, 91, 92], [1, 2, 4, 5, 9, 90, 91, 92], [2, 5, 9], [2, 5, 9, 124], [2, 3], [2, 9], [2, 3]]
@[go_sem] noncomputable def s_rise_K : Known := (((((((((Known.nil).cons 55 ctBest s_best s_best_e).cons 56 ctDiskOk s_diskOk s_diskOk_e).cons 57 ctBlkRead s_blkRead s_blkRead_e).cons 58 ctRootR s_coreRootRead s_coreRootRead_e).cons 59 ctMapR s_mapRead s_mapRead_e).cons 60 ctDdtR s_ddtRead s_ddtRead_e).cons 61 ctCoreOk s_coreOk s_coreOk_e).cons 62 ctRoomI s_room s_room_e).cons 63 ctToCore s_ownCore s_ownCore_e
set_option maxHeartbeats 8000000 in
theorem s_rise : Sound Tryz.prog 17 ctRise := by
 have ke := s_rise_K.env []
 have kl : Lives s_rise_lv := trivial
 refine sound_intro (E := ⟨ti, s_rise_K.Γ, []⟩) ke Tryz.func17 Tryz.ntmps17 rfl (rs := [.cell 2 43, .tmp 3]) rfl ?_
 intro args os hp
 unfold ctRise at hp ⊢
 dsimp only at hp ⊢
 split at hp
 ·rename_i a b l
  refine ⟨by simp, fun φ0 w0 => ?_⟩
  obtain ⟨s1, s2, s3⟩ : a.length ≤ 4000000 ∧ b.length ≤ 4000000 ∧ l.length ≤ 4000000 := hp
  obtain ⟨d, hd⟩ : ∃ d, Dk.mk a b l = d := ⟨_, rfl⟩
  have hsz := fun p => blkRead_size d p
  have nt : (!true) = false := rfl
  have nf : (!false) = true := rfl
  obtain ⟨⟨x, ⟨ra, rs, rb⟩⟩, hb⟩ : ∃ z, bestR d 8 = z := ⟨_, rfl⟩
  cases hok : d.ok with
  | false =>
    have e := rise_bad1 hok
    refine goh (And.intro hd (And.intro hb (And.intro hok nf))) ?_
    refine W_cnd ?_ ?_ <;> intro hlit <;> try (cases hlit; done)
    refine goh trivial ?_
    refine ⟨by (simp only [go_sem, hd, e, Co.nil, ↓reduceIte, reduceCtorEq, Nat.reduceAdd, Nat.reduceLT, Nat.reduceLeDiff, Nat.reduceEqDiff]) <;> trivial, [none, none, none, none], ?_⟩
    all_goals try simp only [go_sem, hd, e, Co.nil, inj_r, ↓reduceIte, reduceCtorEq, Nat.reduceAdd, Nat.reduceLT, Nat.reduceLeDiff, Nat.reduceEqDiff, Int.reduceEq]
    all_goals (repeat' refine And.intro ?_ ?_) <;> try exact shut7
  | true =>
  by_cases hx : x > 0
  rotate_left
  ·have e : riseV d = (.nil, 1) := rise_bad2 (by rw [hb]; exact hx)
   have c1 : decide (x > 0) = false := decide_eq_false hx
   refine goh (And.intro hd (And.intro hb (And.intro hok (And.intro nt (And.intro nf c1))))) ?_
   refine W_cnd ?_ ?_ <;> intro hlit <;> try (cases hlit; done)
   refine goh trivial ?_
   refine ⟨by (simp only [go_sem, hd, e, Co.nil, ↓reduceIte, reduceCtorEq, Nat.reduceAdd, Nat.reduceLT, Nat.reduceLeDiff, Nat.reduceEqDiff]) <;> trivial, [none, none, none, none], ?_⟩
   all_goals try simp only [go_sem, hd, e, Co.nil, inj_r, ↓reduceIte, reduceCtorEq, Nat.reduceAdd, Nat.reduceLT, Nat.reduceLeDiff, Nat.reduceEqDiff, Int.reduceEq]
   all_goals (repeat' refine And.intro ?_ ?_) <;> try exact shut7
  have c1 : decide (x > 0) = true := decide_eq_true hx
  have e0 := rise_is hok hb hx
  have z0 := hsz ⟨ra, rs, rb⟩
  have q1 := fun h => riseT_bad1 (d := d) (x := x) (r := ⟨ra, rs, rb⟩) h
  have q2 := fun h => riseT_bad2 (d := d) (x := x) (r := ⟨ra, rs, rb⟩) h
  have q3 := fun cs ps h0 h => riseT_is (d := d) (x := x) (r := ⟨ra, rs, rb⟩) (cs := cs) (ps := ps) h0 h
  obtain ⟨⟨t, code⟩, hbr⟩ : ∃ z, blkRead d ⟨ra, rs, rb⟩ = z := ⟨_, rfl⟩
  rw [hbr] at z0 q1 q2 q3
  simp only at z0 q1 q2 q3
  have z1 : t.size ≤ 1000000 := by omega
  by_cases hc : code = 0
  rotate_left
  ·have e : riseV d = (.nil, 8) := e0.trans (q1 hc)
   have c2 : (code != 0) = true := by simpa using hc
   refine goh (And.intro hd (And.intro hb (And.intro hok (And.intro nt (And.intro c1 (And.intro hbr z1)))))) ?_
   refine W_cnd ?_ ?_ <;> intro hlit <;> try (cases hlit; done)
   refine goh (And.intro hd (And.intro hbr c2)) ?_
   refine W_cnd ?_ ?_ <;> intro hlit <;> try (cases hlit; done)
   refine goh trivial ?_
   refine ⟨by (simp only [go_sem, hd, e, Co.nil, ↓reduceIte, reduceCtorEq, Nat.reduceAdd, Nat.reduceLT, Nat.reduceLeDiff, Nat.reduceEqDiff]) <;> trivial, [none, none, none, none], ?_⟩
   all_goals try simp only [go_sem, hd, e, Co.nil, inj_r, ↓reduceIte, reduceCtorEq, Nat.reduceAdd, Nat.reduceLT, Nat.reduceLeDiff, Nat.reduceEqDiff, Int.reduceEq]
   all_goals (repeat' refine And.intro ?_ ?_) <;> try exact shut7
  subst hc
  cases hr : rootR t with
  | none =>
    have e : riseV d = (.nil, 8) := e0.trans (q2 hr)
    refine goh (And.intro hd (And.intro hb (And.intro hok (And.intro nt (And.intro nf (And.intro c1 (And.intro hbr (And.intro z1 hr)))))))) ?_
    refine W_cnd ?_ ?_ <;> intro hlit <;> try (cases hlit; done)
    refine goh (And.intro hd (And.intro hbr (And.intro hr nf))) ?_
    refine W_cnd ?_ ?_ <;> intro hlit <;> try (cases hlit; done)
    refine goh trivial ?_
    refine ⟨by (simp only [go_sem, hd, e, Co.nil, ↓reduceIte, reduceCtorEq, Nat.reduceAdd, Nat.reduceLT, Nat.reduceLeDiff, Nat.reduceEqDiff]) <;> trivial, [none, none, none, none], ?_⟩
    all_goals try simp only [go_sem, hd, e, Co.nil, inj_r, ↓reduceIte, reduceCtorEq, Nat.reduceAdd, Nat.reduceLT, Nat.reduceLeDiff, Nat.reduceEqDiff, Int.reduceEq]
    all_goals (repeat' refine And.intro ?_ ?_) <;> try exact shut7
  | some z =>
  obtain ⟨cs, ps⟩ := z
  have e1 : riseV d = riseW d x ⟨ra, rs, rb⟩ cs ps := e0.trans (q3 cs ps rfl hr)
  obtain ⟨f1, f2⟩ := root_few hr
  have hfit := rise_fit hr d x
  clear e0 q1 q2 q3
  obtain ⟨M, hM⟩ : ∃ M : Nat → List CSet, M = mapsI d cs := ⟨_, rfl⟩
  have m0 : M 0 = cs := by rw [hM]; exact mapsI_zero d cs
  have ml : ∀ i, (M i).length = cs.length := fun i => by rw [hM]; exact mapsI_len d cs i
  refine goh (And.intro hd (And.intro hb (And.intro hok (And.intro nt (And.intro nf (And.intro c1 (And.intro hbr (And.intro z1 hr)))))))) ?_
  refine W_cnd ?_ ?_ <;> intro hlit <;> try (cases hlit; done)
  refine goh (And.intro hd (And.intro hbr (And.intro hr nt))) ?_
  refine W_cnd ?_ ?_ <;> intro hlit <;> try (cases hlit; done)
  refine goh trivial ?_
  refine W_for cs.length (fun i => (cs.take i).all (okS d) = true) (fun i => ⟨[(1, .one (.ptr 0 0)), (2, .one (.ptr 1 0)), (4, vi x), (5, .one (.ptr 2 0)), (9, .one (.ptr 3 0)), (55, vi cs.length), (56, vi i)], [some (.cells [.isl .str a, .isl .str b, .isl .late l]), some (.cells [.val (.int .i64 0), .val (.slice none 0 0), .val (.slice none 0 0), .val (.slice none 0 0), .val (.bool false), .val (.slice none 0 0), .val (.int .i64 0)]), some (.cells [.val (.int .i64 ra), .val (.int .i64 rs), .val (.int .i64 rb)]), some (.cells [.val (.int .i64 0), .osl .cset 4 0 cs.length, .val (.slice none 0 0), .osl .ptr 5 0 ps.length, .val (.bool false), .val (.slice none 0 0), .val (.int .i64 0)]), some (.arr .cset (M i)), some (.arr .ptr ps)], []⟩) [some 0, some 1, some 2, some 5, some 3, some 4] (leh m0) rfl fun i hi hI => ?_
  have hml := ml i
  refine goh trivial ?_
  refine W_cnd ?_ ?_ <;> (try simp only [cnd_r]) <;> intro hlt
  ·have hi' : i < cs.length := by omega
   have hat : (M i).getD i ET.cset.dflt = cs.getD i ET.cset.dflt := by rw [hM]; exact mapsI_at d hi'
   have hms : M (i + 1) = (M i).set i (mset d (cs.getD i ET.cset.dflt)) := by rw [hM]; exact mapsI_succ d hi'
   have g1 := fun h => riseW_bad1 (d := d) (x := x) (r := ⟨ra, rs, rb⟩) (ps := ps) (all_one (f := okS d) ET.cset.dflt hi' h)
   have g2 := fun h => all_more (f := okS d) ET.cset.dflt hi' hI h
   obtain ⟨s, hs0⟩ : ∃ s, cs.getD i ET.cset.dflt = s := ⟨_, rfl⟩
   rw [hs0] at hat hms g1 g2
   obtain ⟨nm, kd, fr, ⟨⟨ka0, kb0, kc0⟩, ⟨ka1, kb1, kc1⟩, ⟨ka2, kb2, kc2⟩, ⟨ka3, kb3, kc3⟩, ⟨ka4, kb4, kc4⟩, ⟨ka5, kb5, kc5⟩, ⟨ka6, kb6, kc6⟩, ⟨ka7, kb7, kc7⟩⟩, ⟨pa, pb, pc⟩, dt⟩ := s
   have y0 := hsz ⟨pa, pb, pc⟩
   have o1 := fun h => okS_bad1 (d := d) (s := ⟨nm, kd, fr, ⟨⟨ka0, kb0, kc0⟩, ⟨ka1, kb1, kc1⟩, ⟨ka2, kb2, kc2⟩, ⟨ka3, kb3, kc3⟩, ⟨ka4, kb4, kc4⟩, ⟨ka5, kb5, kc5⟩, ⟨ka6, kb6, kc6⟩, ⟨ka7, kb7, kc7⟩⟩, ⟨pa, pb, pc⟩, dt⟩) h
   have o2 := fun h => okS_bad2 (d := d) (s := ⟨nm, kd, fr, ⟨⟨ka0, kb0, kc0⟩, ⟨ka1, kb1, kc1⟩, ⟨ka2, kb2, kc2⟩, ⟨ka3, kb3, kc3⟩, ⟨ka4, kb4, kc4⟩, ⟨ka5, kb5, kc5⟩, ⟨ka6, kb6, kc6⟩, ⟨ka7, kb7, kc7⟩⟩, ⟨pa, pb, pc⟩, dt⟩) h
   have o3 := fun m h0 h => okS_is (d := d) (s := ⟨nm, kd, fr, ⟨⟨ka0, kb0, kc0⟩, ⟨ka1, kb1, kc1⟩, ⟨ka2, kb2, kc2⟩, ⟨ka3, kb3, kc3⟩, ⟨ka4, kb4, kc4⟩, ⟨ka5, kb5, kc5⟩, ⟨ka6, kb6, kc6⟩, ⟨ka7, kb7, kc7⟩⟩, ⟨pa, pb, pc⟩, dt⟩) (m := m) h0 h
   simp only at o1 o2 o3
   obtain ⟨⟨u, code⟩, hbs⟩ : ∃ z, blkRead d ⟨pa, pb, pc⟩ = z := ⟨_, rfl⟩
   rw [hbs] at y0 o1 o2 o3
   simp only at y0 o1 o2 o3
   have y1 : u.size ≤ 1000000 := by omega
   by_cases hc : code = 0
   rotate_left
   ·have e : riseV d = (.nil, 8) := e1.trans (g1 (o1 hc))
    have c2 : (code != 0) = true := by simpa using hc
    refine goh (And.intro hd (And.intro hml (And.intro hat (And.intro hbs (And.intro y1 c2))))) ?_
    refine W_cnd ?_ ?_ <;> intro hlit <;> try (cases hlit; done)
    refine goh trivial ?_
    refine ⟨by (simp only [go_sem, hd, e, Co.nil, ↓reduceIte, reduceCtorEq, Nat.reduceAdd, Nat.reduceLT, Nat.reduceLeDiff, Nat.reduceEqDiff]) <;> trivial, [none, none, none, none], ?_⟩
    all_goals try simp only [go_sem, hd, e, Co.nil, inj_r, ↓reduceIte, reduceCtorEq, Nat.reduceAdd, Nat.reduceLT, Nat.reduceLeDiff, Nat.reduceEqDiff, Int.reduceEq]
    all_goals (repeat' refine And.intro ?_ ?_) <;> try exact shut7
   subst hc
   cases hm : mapP u with
   | none =>
     have e : riseV d = (.nil, 8) := e1.trans (g1 (o2 hm))
     refine goh (And.intro hd (And.intro hml (And.intro hat (And.intro hbs (And.intro y1 (And.intro hm nf)))))) ?_
     refine W_cnd ?_ ?_ <;> intro hlit <;> try (cases hlit; done)
     refine goh trivial ?_
     refine ⟨by (simp only [go_sem, hd, e, Co.nil, ↓reduceIte, reduceCtorEq, Nat.reduceAdd, Nat.reduceLT, Nat.reduceLeDiff, Nat.reduceEqDiff]) <;> trivial, [none, none, none, none], ?_⟩
     all_goals try simp only [go_sem, hd, e, Co.nil, inj_r, ↓reduceIte, reduceCtorEq, Nat.reduceAdd, Nat.reduceLT, Nat.reduceLeDiff, Nat.reduceEqDiff, Int.reduceEq]
     all_goals (repeat' refine And.intro ?_ ?_) <;> try exact shut7
   | some m =>
     obtain ⟨k1, k2⟩ := o3 m rfl hm
     rw [k2] at hms
     obtain ⟨⟨ma0, mb0, mc0⟩, ⟨ma1, mb1, mc1⟩, ⟨ma2, mb2, mc2⟩, ⟨ma3, mb3, mc3⟩, ⟨ma4, mb4, mc4⟩, ⟨ma5, mb5, mc5⟩, ⟨ma6, mb6, mc6⟩, ⟨ma7, mb7, mc7⟩⟩ := m
     refine goh (And.intro hd (And.intro hml (And.intro hat (And.intro hbs (And.intro y1 (And.intro hm nt)))))) ?_
     refine W_cnd ?_ ?_ <;> intro hlit <;> try (cases hlit; done)
     refine goh (And.intro hml hat) ?_
     exact ⟨[some 0, some 1, some 2, some 3, some 4, some 5], by omega, leh hms, g2 k1⟩
  obtain rfl : i = cs.length := by omega
  have hall := all_end hI
  have hme : M cs.length = cs.map (mset d) := by rw [hM]; exact mapsI_all d cs
  rw [hme]
  clear hI hml ml m0 hM hme
  obtain ⟨E, hE⟩ : ∃ E : Nat → List Ent, E = tabI d ps [] := ⟨_, rfl⟩
  have t0 : E 0 = [] := by rw [hE]; exact tabI_zero d ps []
  have tl : ∀ i, (E i).length ≤ 48 * ps.length := fun i => by rw [hE]; simpa using tabI_len d ps [] i
  have hcl : (cs.map (mset d)).length = cs.length := List.length_map ..
  refine goh hcl ?_
  refine W_for ps.length (fun i => (ps.take i).all (okP d) = true) (fun i => ⟨[(1, .one (.ptr 0 0)), (2, .one (.ptr 1 0)), (4, vi x), (5, .one (.ptr 2 0)), (9, .one (.ptr 3 0)), (90, .one (.osl .ptr 5 0 ps.length)), (91, vi ps.length), (92, vi i)], [some (.cells [.isl .str a, .isl .str b, .isl .late l]), some (.cells [.val (.int .i64 0), .val (.slice none 0 0), .val (.slice none 0 0), .val (.slice none 0 0), .val (.bool false), .val (.slice none 0 0), .val (.int .i64 0)]), some (.cells [.val (.int .i64 ra), .val (.int .i64 rs), .val (.int .i64 rb)]), some (.cells [.val (.int .i64 0), .osl .cset 4 0 cs.length, .osl .ent 6 0 (E i).length, .osl .ptr 5 0 ps.length, .val (.bool false), .val (.slice none 0 0), .val (.int .i64 0)]), some (.arr .cset (cs.map (mset d))), some (.arr .ptr ps), some (.arr .ent (E i))], []⟩) [some 0, some 1, some 2, some 3, some 4, some 5, none] (leh t0) rfl fun i hi hI => ?_
  have hel := tl i
  refine goh trivial ?_
  refine W_cnd ?_ ?_ <;> (try simp only [cnd_r]) <;> intro hlt
  ·have hi' : i < ps.length := by omega
   have hms : E (i + 1) = E i ++ entsP d (ps.getD i ET.ptr.dflt) := by rw [hE]; exact tabI_succ d [] hi'
   have g1 := fun h => riseW_bad2 (d := d) (x := x) (r := ⟨ra, rs, rb⟩) (cs := cs) (all_one (f := okP d) ET.ptr.dflt hi' h)
   have g2 := fun h => all_more (f := okP d) ET.ptr.dflt hi' hI h
   obtain ⟨s, hs0⟩ : ∃ s, ps.getD i ET.ptr.dflt = s := ⟨_, rfl⟩
   rw [hs0] at hms g1 g2
   obtain ⟨pa, pb, pc⟩ := s
   have y0 := hsz ⟨pa, pb, pc⟩
   have hle := entsP_len d ⟨pa, pb, pc⟩
   have o1 := fun h => okP_bad1 (d := d) (p := ⟨pa, pb, pc⟩) h
   have o2 := fun h => okP_bad2 (d := d) (p := ⟨pa, pb, pc⟩) h
   have o3 := fun es h0 h => okP_is (d := d) (p := ⟨pa, pb, pc⟩) (es := es) h0 h
   obtain ⟨⟨u, code⟩, hbs⟩ : ∃ z, blkRead d ⟨pa, pb, pc⟩ = z := ⟨_, rfl⟩
   rw [hbs] at y0 o1 o2 o3
   simp only at y0 o1 o2 o3
   have y1 : u.size ≤ 1000000 := by omega
   by_cases hc : code = 0
   rotate_left
   ·have e : riseV d = (.nil, 8) := e1.trans (g1 (o1 hc))
    have c2 : (code != 0) = true := by simpa using hc
    refine goh (And.intro hd (And.intro hs0 (And.intro hbs (And.intro y1 c2)))) ?_
    refine W_cnd ?_ ?_ <;> intro hlit <;> try (cases hlit; done)
    refine goh trivial ?_
    refine ⟨by (simp only [go_sem, hd, e, Co.nil, ↓reduceIte, reduceCtorEq, Nat.reduceAdd, Nat.reduceLT, Nat.reduceLeDiff, Nat.reduceEqDiff]) <;> trivial, [none, none, none, none], ?_⟩
    all_goals try simp only [go_sem, hd, e, Co.nil, inj_r, ↓reduceIte, reduceCtorEq, Nat.reduceAdd, Nat.reduceLT, Nat.reduceLeDiff, Nat.reduceEqDiff, Int.reduceEq]
    all_goals (repeat' refine And.intro ?_ ?_) <;> try exact shut7
   subst hc
   cases hm : ddtR u with
   | none =>
     have e : riseV d = (.nil, 8) := e1.trans (g1 (o2 hm))
     refine goh (And.intro hd (And.intro hs0 (And.intro hbs (And.intro y1 (And.intro hm nf))))) ?_
     refine W_cnd ?_ ?_ <;> intro hlit <;> try (cases hlit; done)
     refine goh trivial ?_
     refine ⟨by (simp only [go_sem, hd, e, Co.nil, ↓reduceIte, reduceCtorEq, Nat.reduceAdd, Nat.reduceLT, Nat.reduceLeDiff, Nat.reduceEqDiff]) <;> trivial, [none, none, none, none], ?_⟩
     all_goals try simp only [go_sem, hd, e, Co.nil, inj_r, ↓reduceIte, reduceCtorEq, Nat.reduceAdd, Nat.reduceLT, Nat.reduceLeDiff, Nat.reduceEqDiff, Int.reduceEq]
     all_goals (repeat' refine And.intro ?_ ?_) <;> try exact shut7
   | some es =>
     obtain ⟨k1, k2⟩ := o3 es rfl hm
     rw [k2] at hms hle
     have tE : (E i).take (E i).length = E i := List.take_length
     have te : es.take es.length = es := List.take_length
     have hla : (E i ++ es).length = (E i).length + es.length := List.length_append
     refine goh (And.intro hd (And.intro hs0 (And.intro hbs (And.intro y1 (And.intro hm nt))))) ?_
     refine W_cnd ?_ ?_ <;> intro hlit <;> try (cases hlit; done)
     refine goh (And.intro tE te) ?_
     exact ⟨[some 0, some 1, some 2, some 3, some 4, some 5, some 9], by omega, leh (And.intro hms hla), g2 k1⟩
  obtain rfl : i = ps.length := by omega
  have hall2 := all_end hI
  have hee : E ps.length = ps.flatMap (entsP d) := by rw [hE, tabI_all]; rfl
  have hfl := flat_few d ps
  have g3 := fun h => riseW_bad3 (d := d) (x := x) (r := ⟨ra, rs, rb⟩) (cs := cs) (ps := ps) h
  have g4 := fun h => riseW_is (d := d) (x := x) (r := ⟨ra, rs, rb⟩) (cs := cs) (ps := ps) hall hall2 h
  have hrc : riseC d x cs ps = ⟨x, cs.map (mset d), ps.flatMap (entsP d), ps, false, [], 0⟩ := rfl
  rw [hee]
  clear hI hel tl t0 hE hee
  rw [hrc] at hfit g3 g4
  obtain ⟨C, hC⟩ : ∃ C, cs.map (mset d) = C := ⟨_, rfl⟩
  obtain ⟨F, hF⟩ : ∃ F, ps.flatMap (entsP d) = F := ⟨_, rfl⟩
  rw [hC] at hcl
  have tC : C.take cs.length = C := List.take_of_length_le (by omega)
  rw [hF] at hfl
  rw [hC, hF] at hfit g3 g4 ⊢
  cases hco : (Co.mk x C F ps false [] 0).ok with
  | false =>
    have e : riseV d = (.nil, 8) := e1.trans (g3 hco)
    refine goh (And.intro hco (And.intro hfit (And.intro nf (And.intro hcl tC)))) ?_
    refine W_cnd ?_ ?_ <;> intro hlit <;> try (cases hlit; done)
    refine goh trivial ?_
    refine ⟨by (simp only [go_sem, hd, e, Co.nil, ↓reduceIte, reduceCtorEq, Nat.reduceAdd, Nat.reduceLT, Nat.reduceLeDiff, Nat.reduceEqDiff]) <;> trivial, [none, none, none, none], ?_⟩
    all_goals try simp only [go_sem, hd, e, Co.nil, inj_r, ↓reduceIte, reduceCtorEq, Nat.reduceAdd, Nat.reduceLT, Nat.reduceLeDiff, Nat.reduceEqDiff, Int.reduceEq]
    all_goals (repeat' refine And.intro ?_ ?_) <;> try exact shut7
  | true =>
    have e := e1.trans (g4 hco)
    obtain ⟨Z, hZ⟩ : ∃ Z, roomR ⟨x, C, F, ps, false, [], 0⟩ ra = Z := ⟨_, rfl⟩
    simp only [hZ] at e
    have tz : ∀ ys, (Z ++ ys).take Z.length = Z := fun ys => by simp
    have hzn : ∀ n, Z.length ≤ Z.length + n := fun n => Nat.le_add_right ..
    have hzl : Z.length ≤ 4000000 := by
     have h1 := reachV_len ⟨x, C, F, ps, false, [], 0⟩ ra
     rw [← hZ]
     unfold roomR
     rw [if_pos hco]
     simp only at h1
     omega
    refine goh (And.intro hco (And.intro hfit (And.intro nt (And.intro hcl tC)))) ?_
    refine W_cnd ?_ ?_ <;> intro hlit <;> try (cases hlit; done)
    refine goh (And.intro hco (And.intro hfit (And.intro hcl (And.intro tC (And.intro hZ (And.intro tz (And.intro hzn hzl))))))) ?_
    exact finh [some 8, some 9, some 10, some 11] (And.intro hd e)
 ·simp [no] at hp
end Go.Proofs.YtfmjgoeclilcnaaGreatDoor
