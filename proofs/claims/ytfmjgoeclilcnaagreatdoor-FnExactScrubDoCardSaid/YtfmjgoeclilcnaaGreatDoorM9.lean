import Derived.Test.YtfmjgoeclilcnaaGreatDoorM7
import Derived.Test.YtfmjgoeclilcnaaGreatDoorM8
set_option linter.unusedSimpArgs false
set_option linter.unusedVariables false
set_option linter.unusedSectionVars false
namespace Go.Proofs.YtfmjgoeclilcnaaGreatDoor
open Go.RowKit
@[go_sem] def ctLong24 : Ct := ⟨false, [], fun args os => match args, os with
  | [.one (.val (.string t))], [] => is (vb (long24 t))
  | _, _ => no⟩
theorem s_long24_e : EnterOk Tryz.prog 190 := ⟨_, Tryz.func190, rfl, by decide⟩
@[go_sem] def s_long24_lv : List (List Nat) := [[0], [2]]
@[go_sem] noncomputable def s_long24_K : Known := Known.nil
set_option maxHeartbeats 8000000 in
theorem s_long24 : Sound Tryz.prog 190 ctLong24 := by
 have ke := s_long24_K.env []
 have kl : Lives s_long24_lv := trivial
 refine sound_intro (E := ⟨ti, s_long24_K.Γ, []⟩) ke Tryz.func190 Tryz.ntmps190 rfl (rs := [.tmp 2]) rfl ?_
 intro args os hp
 unfold ctLong24 at hp ⊢
 dsimp only at hp ⊢
 split at hp
 ·rename_i t
  refine ⟨by simp, fun φ0 w0 => ?_⟩
  refine goh trivial ?_
  refine ⟨by (simp only [go_sem, long24, ↓reduceIte, reduceCtorEq, Nat.reduceAdd, Nat.reduceLT, Nat.reduceLeDiff, Nat.reduceEqDiff]) <;> trivial, [], ?_⟩
  all_goals try simp only [go_sem, long24, inj_r, ↓reduceIte, reduceCtorEq, Nat.reduceAdd, Nat.reduceLT, Nat.reduceLeDiff, Nat.reduceEqDiff, Int.reduceEq]
  all_goals (repeat' refine And.intro ?_ ?_) <;> try exact shut7
 ·simp [no, is] at hp
@[go_sem] def ctIndex24 : Ct := ⟨false, [[some .str]], fun args os => match args, os with
  | [.one (.isl .str xs), .one (.fn 190 [])], [] => ifp (xs.length ≤ 4000000) (vi (firstAt long24 xs))
  | _, _ => no⟩
@[go_sem] def sgIndex24 (xs : List ByteArray) (i : Nat) : Sg := ⟨[(8, vi i), (7, vi xs.length), (0, .one (.isl .str xs)), (1, .one (.fn 190 []))], [], []⟩
theorem s_index24_e : EnterOk Tryz.prog 186 := ⟨_, Tryz.func186, rfl, by decide⟩
@[go_sem] def s_index24_lv : List (List Nat) := [[0, 1], [0, 1, 7, 8], [0, 1, 7, 8, 9], [0, 1, 5, 7, 8], [0, 1, 5, 7, 8, 16], [4], [0, 1, 7, 8], [4]]
@[go_sem] noncomputable def s_index24_K : Known := (Known.nil).cons 190 ctLong24 s_long24 s_long24_e
set_option maxHeartbeats 8000000 in
theorem s_index24 : Sound Tryz.prog 186 ctIndex24 := by
 have ke := s_index24_K.env []
 have kl : Lives s_index24_lv := trivial
 refine sound_intro (E := ⟨ti, s_index24_K.Γ, []⟩) ke Tryz.func186 Tryz.ntmps186 rfl (rs := [.tmp 4]) rfl ?_
 intro args os hp
 unfold ctIndex24 at hp ⊢
 dsimp only at hp ⊢
 split at hp
 ·rename_i xs
  refine ⟨by simp, fun φ0 w0 => ?_⟩
  have hlen : xs.length ≤ 4000000 := hp
  clear hp
  refine goh trivial ?_
  refine W_le (σ' := sgIndex24 xs 0) [] (by
   simp only [go_sem, inj_r, ↓reduceIte, reduceCtorEq, Nat.reduceAdd, Nat.reduceLT, Nat.reduceLeDiff, Nat.reduceEqDiff, Int.reduceEq]
   all_goals (repeat' refine And.intro ?_ ?_) <;> try exact shut7
   ) ?_
  refine W_loop (fun n σ => ∃ i : Nat, i ≤ xs.length ∧ n = xs.length - i ∧ (∀ j, j < i → long24 (xs.getD j ET.str.dflt) = false) ∧ σ = sgIndex24 xs i) xs.length ⟨0, by omega, by omega, by omega, rfl⟩ ?_
  rintro n σ ⟨i, hi, rfl, hbef, rfl⟩
  unfold sgIndex24
  refine goh trivial ?_
  refine W_cnd ?_ ?_ <;> (try simp only [cnd_r]) <;> intro hlt
  ·refine goh trivial ?_
   refine W_cnd ?_ ?_ <;> (try simp only [cnd_r]) <;> intro hl
   ·refine goh trivial ?_
    refine ⟨by (simp only [go_sem, ↓reduceIte, reduceCtorEq, Nat.reduceAdd, Nat.reduceLT, Nat.reduceLeDiff, Nat.reduceEqDiff]) <;> trivial, [], ?_⟩
    all_goals try simp only [go_sem, inj_r, ↓reduceIte, reduceCtorEq, Nat.reduceAdd, Nat.reduceLT, Nat.reduceLeDiff, Nat.reduceEqDiff, Int.reduceEq]
    all_goals (repeat' refine And.intro ?_ ?_) <;> try exact shut7
    exact (firstAt_some (by omega) hbef hl).symm
   ·refine goh trivial ?_
    refine ⟨xs.length - (i + 1), [], sgIndex24 xs (i + 1), by omega, ?_, i + 1, by omega, rfl, fun j hj => ?_, rfl⟩
    ·exact leh trivial
    ·rcases Nat.lt_succ_iff_lt_or_eq.1 hj with h | rfl
     ·exact hbef j h
     ·exact hl
  ·refine goh trivial ?_
   refine ⟨by (simp only [go_sem, ↓reduceIte, reduceCtorEq, Nat.reduceAdd, Nat.reduceLT, Nat.reduceLeDiff, Nat.reduceEqDiff]) <;> trivial, [], ?_⟩
   all_goals try simp only [go_sem, inj_r, ↓reduceIte, reduceCtorEq, Nat.reduceAdd, Nat.reduceLT, Nat.reduceLeDiff, Nat.reduceEqDiff, Int.reduceEq]
   all_goals (repeat' refine And.intro ?_ ?_) <;> try exact shut7
   exact (firstAt_none fun j hj => hbef j (by omega)).symm
 ·simp [no, ifp] at hp
@[go_sem] def ctHas24 : Ct := ⟨false, [[some .str]], fun args os => match args, os with
  | [.one (.isl .str xs), .one (.fn 190 [])], [] => ifp (xs.length ≤ 4000000) (vb (xs.any long24))
  | _, _ => no⟩
theorem s_has24_e : EnterOk Tryz.prog 124 := ⟨_, Tryz.func124, rfl, by decide⟩
@[go_sem] def s_has24_lv : List (List Nat) := [[0, 1], [4]]
@[go_sem] noncomputable def s_has24_K : Known := (Known.nil).cons 186 ctIndex24 s_index24 s_index24_e
set_option maxHeartbeats 8000000 in
theorem s_has24 : Sound Tryz.prog 124 ctHas24 := by
 have ke := s_has24_K.env []
 have kl : Lives s_has24_lv := trivial
 refine sound_intro (E := ⟨ti, s_has24_K.Γ, []⟩) ke Tryz.func124 Tryz.ntmps124 rfl (rs := [.tmp 4]) rfl ?_
 intro args os hp
 unfold ctHas24 at hp ⊢
 dsimp only at hp ⊢
 split at hp
 ·rename_i xs
  refine ⟨by simp, fun φ0 w0 => ?_⟩
  have hlen : xs.length ≤ 4000000 := hp
  clear hp
  refine goh trivial ?_
  refine ⟨by (simp only [go_sem, ↓reduceIte, reduceCtorEq, Nat.reduceAdd, Nat.reduceLT, Nat.reduceLeDiff, Nat.reduceEqDiff]) <;> trivial, [], ?_⟩
  all_goals try simp only [go_sem, inj_r, ↓reduceIte, reduceCtorEq, Nat.reduceAdd, Nat.reduceLT, Nat.reduceLeDiff, Nat.reduceEqDiff, Int.reduceEq]
  all_goals (repeat' refine And.intro ?_ ?_) <;> try exact shut7
  exact firstAt_ge _ _
 ·simp [no, ifp] at hp
@[go_sem] noncomputable def ctNamed : Ct := ⟨true, [], fun args os => match args, os with
  | [.agg cs, .one (.ptr 0 0)], [.cells ds] => (match bsetOf cs, bsetOf ds with | some x, some s => is (vb (same x.name s.from_)) | _, _ => no)
  | _, _ => no⟩
theorem s_named_e : EnterOk Tryz.prog 219 := ⟨_, Tryz.func219, rfl, by decide⟩
@[go_sem] def s_named_lv : List (List Nat) := [[1, 2], [3]]
@[go_sem] noncomputable def s_named_K : Known := Known.nil
set_option maxHeartbeats 8000000 in
theorem s_named : Sound Tryz.prog 219 ctNamed := by
 have ke := s_named_K.env []
 have kl : Lives s_named_lv := trivial
 refine sound_intro (E := ⟨ti, s_named_K.Γ, []⟩) ke Tryz.func219 Tryz.ntmps219 rfl (rs := [.tmp 3]) rfl ?_
 intro args os hp
 unfold ctNamed at hp ⊢
 dsimp only at hp ⊢
 split at hp
 ·rename_i cs ds
  split at hp
  ·rename_i x s hx hs
   obtain rfl := bsetOf_some hx
   obtain rfl := bsetOf_some hs
   clear hx hs hp
   refine ⟨by simp, fun φ0 w0 => ?_⟩
   refine goh trivial ?_
   exact finh [some 0] trivial
  ·simp [no] at hp
 ·simp [no] at hp
@[go_sem] noncomputable def ctIndexNamed : Ct := ⟨true, [[some .bset]], fun args os => match args, os with
  | [.one (.isl .bset xs), .one (.fn 219 [(0, 0)])], [.cells ds] => (match bsetOf ds with | some s => ifp (xs.length ≤ 4000000) (vi (atB xs s.from_)) | none => no)
  | _, _ => no⟩
@[go_sem] def sgIxN (xs : List BSet) (s : BSet) (i : Nat) : Sg := ⟨[(8, vi i), (7, vi xs.length), (0, .one (.isl .bset xs)), (1, .one (.fn 219 [(0, 0)]))], [some (.cells ((ET.bset.cells s).map .val))], []⟩
theorem s_indexNamed_e : EnterOk Tryz.prog 218 := ⟨_, Tryz.func218, rfl, by decide⟩
@[go_sem] def s_indexNamed_lv : List (List Nat) := [[0, 1], [0, 1, 7, 8], [0, 1, 7, 8, 9], [0, 1, 5, 7, 8], [0, 1, 5, 7, 8, 16], [4], [0, 1, 7, 8], [4]]
@[go_sem] noncomputable def s_indexNamed_K : Known := (Known.nil).cons 219 ctNamed s_named s_named_e
set_option maxHeartbeats 8000000 in
theorem s_indexNamed : Sound Tryz.prog 218 ctIndexNamed := by
 have ke := s_indexNamed_K.env []
 have kl : Lives s_indexNamed_lv := trivial
 refine sound_intro (E := ⟨ti, s_indexNamed_K.Γ, []⟩) ke Tryz.func218 Tryz.ntmps218 rfl (rs := [.tmp 4]) rfl ?_
 intro args os hp
 unfold ctIndexNamed at hp ⊢
 dsimp only at hp ⊢
 split at hp
 ·rename_i xs ds
  split at hp
  ·rename_i s hs
   obtain rfl := bsetOf_some hs
   have hlen : xs.length ≤ 4000000 := hp
   clear hs
   refine ⟨by simp, fun φ0 w0 => ?_⟩
   refine goh trivial ?_
   refine W_le (σ' := sgIxN xs s 0) [some 0] (by
    simp only [go_sem, inj_r, ↓reduceIte, reduceCtorEq, Nat.reduceAdd, Nat.reduceLT, Nat.reduceLeDiff, Nat.reduceEqDiff, Int.reduceEq]
    all_goals (repeat' refine And.intro ?_ ?_) <;> try exact shut7
    ) ?_
   refine W_loop (fun n σ => ∃ i : Nat, i ≤ xs.length ∧ n = xs.length - i ∧ (∀ j, j < i → same (xs.getD j ET.bset.dflt).name s.from_ = false) ∧ σ = sgIxN xs s i) xs.length ⟨0, by omega, by omega, by omega, rfl⟩ ?_
   rintro n σ ⟨i, hi, rfl, hbef, rfl⟩
   unfold sgIxN
   refine goh trivial ?_
   refine W_cnd ?_ ?_ <;> (try simp only [cnd_r]) <;> intro hlt
   ·refine goh trivial ?_
    refine W_cond _ (by exact rfl) (by exact trivial) ?_ ?_ <;> intro hl
    ·have e : atB xs s.from_ = i := firstAt_some (by omega) hbef hl
     refine goh trivial ?_
     exact finh [some 0] e
    ·refine goh trivial ?_
     refine ⟨xs.length - (i + 1), [some 0], sgIxN xs s (i + 1), by omega, ?_, i + 1, by omega, rfl, fun j hj => ?_, rfl⟩
     ·exact leh trivial
     ·rcases Nat.lt_succ_iff_lt_or_eq.1 hj with h | rfl
      ·first | exact hbef j h | exact same_false.1 (hbef j h)
      ·first | exact hl | exact same_false.1 hl
   ·have e : atB xs s.from_ = -1 := firstAt_none fun j hj => hbef j (by omega)
    refine goh trivial ?_
    exact finh [some 0] e
  ·simp [no] at hp
 ·simp [no] at hp
@[go_sem] noncomputable def ctLeads : Ct := ⟨false, [[some .bset], []], fun args os => match args, os with
  | [.agg [.isl .bset xs], .agg cs], [] => (match bsetOf cs with | some s => ifp (xs.length ≤ 4000000) (vb (leadsN xs xs.length s)) | none => no)
  | _, _ => no⟩
@[go_sem] def sgLeads (xs : List BSet) (s : BSet) (i : Nat) : Sg := ⟨[(2, .one (.ptr 0 0)), (3, .one (.ptr 1 0)), (8, vi xs.length), (9, vi i)], [some (.cells [.isl .bset xs]), some (.cells ((ET.bset.cells s).map .val))], []⟩
theorem atB_lt (xs : List BSet) (name : ByteArray) : atB xs name < xs.length := by
 unfold atB firstAt
 split
 ·rename_i i h
  rw [List.findIdx?_eq_some_iff_getElem] at h
  obtain ⟨hi, -⟩ := h
  omega
 ·omega
theorem s_leads_e : EnterOk Tryz.prog 193 := ⟨_, Tryz.func193, rfl, by decide⟩
@[go_sem] def s_leads_lv : List (List Nat) := [[2, 3], [2, 3, 8, 9], [2, 3, 8, 9, 10], [2, 3, 8, 9, 13], [4], [2, 3, 5, 8, 9], [2, 3, 5, 8, 9, 33], [4], [2, 3, 8, 9], [2, 3, 8, 9], [4]]
@[go_sem] noncomputable def s_leads_K : Known := ((Known.nil).cons 218 ctIndexNamed s_indexNamed s_indexNamed_e).cons 219 ctNamed s_named s_named_e
set_option maxHeartbeats 8000000 in
theorem s_leads : Sound Tryz.prog 193 ctLeads := by
 have ke := s_leads_K.env []
 have kl : Lives s_leads_lv := trivial
 refine sound_intro (E := ⟨ti, s_leads_K.Γ, []⟩) ke Tryz.func193 Tryz.ntmps193 rfl (rs := [.tmp 4]) rfl ?_
 intro args os hp
 unfold ctLeads at hp ⊢
 dsimp only at hp ⊢
 split at hp
 ·rename_i xs cs
  split at hp
  ·rename_i s0 hs0
   obtain rfl := bsetOf_some hs0
   have hlen : xs.length ≤ 4000000 := hp
   clear hs0
   refine ⟨by simp, fun φ0 w0 => ?_⟩
   obtain ⟨R, hR⟩ : ∃ R, leadsN xs xs.length s0 = R := ⟨_, rfl⟩
   refine goh trivial ?_
   refine W_le (σ' := sgLeads xs s0 0) [some 0, some 1] (by
    simp only [go_sem, inj_r, ↓reduceIte, reduceCtorEq, Nat.reduceAdd, Nat.reduceLT, Nat.reduceLeDiff, Nat.reduceEqDiff, Int.reduceEq]
    all_goals (repeat' refine And.intro ?_ ?_) <;> try exact shut7
    ) ?_
   refine W_loop (fun q σ => ∃ (i : Nat) (s : BSet), i ≤ xs.length ∧ q = xs.length - i ∧ leadsN xs (xs.length - i) s = R ∧ σ = sgLeads xs s i) xs.length ⟨0, s0, by omega, by omega, hR, rfl⟩ ?_
   rintro q σ ⟨i, s, hi, rfl, hs, rfl⟩
   unfold sgLeads
   refine goh trivial ?_
   refine W_cnd ?_ ?_ <;> (try simp only [cnd_r]) <;> intro hlt
   ·obtain ⟨m, hm⟩ : ∃ m, xs.length - i = m + 1 := ⟨xs.length - i - 1, by omega⟩
    rw [hm] at hs
    unfold leadsN at hs
    refine goh trivial ?_
    refine W_cond _ (by exact rfl) (by exact trivial) ?_ ?_ <;> intro hf
    ·rw [if_pos hf] at hs
     have e : leadsN xs xs.length s0 = (s.kind == 1) := by rw [hR, ← hs]
     refine goh trivial ?_
     exact finh [] e
    ·rw [if_neg (by rw [hf]; decide)] at hs
     have hl := atB_lt xs s.from_
     repeat' first
      | with_reducible refine red ?_
      | refine W_seq ?_
      | (refine W_reg (s_leads_K.env []) s_leads_lv fun K' hK' => ?_
         simp only [go_sem, ↓reduceIte, ↓reduceDIte, reduceCtorEq, Nat.reduceAdd, Nat.reduceMul, Nat.reduceSub, Nat.reduceDiv, Nat.reduceMod, Nat.reduceLT, Nat.reduceLeDiff, Nat.reduceEqDiff, Nat.reduceBEq, Int.reduceToNat, Int.reduceLE, Int.reduceLT, Int.reduceEq, Int.reduceNe, Int.reduceNeg]
         (repeat' refine And.intro ?_ ?_) <;> try first | with_reducible refine hK' ?_ | exact shut6)
      | with_reducible refine blockG_o (by decide) ?_
     ·intro hgd
      have hgd2 : ¬ atB xs s.from_ < 0 := by simpa using hgd
      omega
     refine W_cnd ?_ ?_ <;> (try simp only [cnd_r]) <;> intro hc
     ·have e : leadsN xs xs.length s0 = false := by
       rw [hR, ← hs, if_pos]
       rcases hc with h | h
       ·exact .inl h
       ·exact .inr h
      refine goh trivial ?_
      exact finh [] e
     ·obtain ⟨c1, c2⟩ := hc
      have c3 : ¬ (setOf xs s.from_).kind = s.kind := by
       intro h
       rw [beq_eq_false_iff_ne] at c2
       exact c2 h
      rw [if_neg (fun h => h.elim c1 c3)] at hs
      refine goh trivial ?_
      refine ⟨xs.length - (i + 1), [some 0, some 1], sgLeads xs (setOf xs s.from_) (i + 1), by omega, ?_, i + 1, setOf xs s.from_, by omega, rfl, ?_, rfl⟩
      ·simp only [go_sem, setOf, inj_r, ↓reduceIte, reduceCtorEq, Nat.reduceAdd, Nat.reduceLT, Nat.reduceLeDiff, Nat.reduceEqDiff, Int.reduceEq]
       all_goals (repeat' refine And.intro ?_ ?_) <;> try exact shut7
      ·rw [show xs.length - (i + 1) = m by omega]; exact hs
   ·have h0 : xs.length - i = 0 := by omega
    rw [h0] at hs
    have e : leadsN xs xs.length s0 = false := by rw [hR, ← hs]; rfl
    refine goh trivial ?_
    exact finh [] e
  ·simp [no] at hp
 ·simp [no] at hp
@[go_sem] noncomputable def ctBadSet : Ct := ⟨true, [], fun args os => match args, os with
  | [.agg cs, .one (.ptr 0 0)], [.cells [.isl .bset xs]] => (match bsetOf cs with | some s => ifp (xs.length ≤ 4000000) (vb (!leadsN xs xs.length s)) | none => no)
  | _, _ => no⟩
theorem s_badSet_e : EnterOk Tryz.prog 192 := ⟨_, Tryz.func192, rfl, by decide⟩
@[go_sem] def s_badSet_lv : List (List Nat) := [[1, 2], [3]]
@[go_sem] noncomputable def s_badSet_K : Known := (Known.nil).cons 193 ctLeads s_leads s_leads_e
set_option maxHeartbeats 8000000 in
theorem s_badSet : Sound Tryz.prog 192 ctBadSet := by
 have ke := s_badSet_K.env []
 have kl : Lives s_badSet_lv := trivial
 refine sound_intro (E := ⟨ti, s_badSet_K.Γ, []⟩) ke Tryz.func192 Tryz.ntmps192 rfl (rs := [.tmp 3]) rfl ?_
 intro args os hp
 unfold ctBadSet at hp ⊢
 dsimp only at hp ⊢
 split at hp
 ·rename_i cs xs
  split at hp
  ·rename_i s hs
   obtain rfl := bsetOf_some hs
   have hlen : xs.length ≤ 4000000 := hp
   clear hs
   refine ⟨by simp, fun φ0 w0 => ?_⟩
   refine goh trivial ?_
   exact finh [some 0] trivial
  ·simp [no] at hp
 ·simp [no] at hp
@[go_sem] noncomputable def ctIndexBad : Ct := ⟨true, [[some .bset]], fun args os => match args, os with
  | [.one (.isl .bset ys), .one (.fn 192 [(0, 0)])], [.cells [.isl .bset xs]] => ifp (xs.length ≤ 4000000 ∧ ys.length ≤ 4000000) (vi (firstAt (fun s => !leadsN xs xs.length s) ys))
  | _, _ => no⟩
@[go_sem] def sgIxB (xs ys : List BSet) (i : Nat) : Sg := ⟨[(8, vi i), (7, vi ys.length), (0, .one (.isl .bset ys)), (1, .one (.fn 192 [(0, 0)]))], [some (.cells [.isl .bset xs])], []⟩
theorem s_indexBad_e : EnterOk Tryz.prog 218 := ⟨_, Tryz.func218, rfl, by decide⟩
@[go_sem] def s_indexBad_lv : List (List Nat) := [[0, 1], [0, 1, 7, 8], [0, 1, 7, 8, 9], [0, 1, 5, 7, 8], [0, 1, 5, 7, 8, 16], [4], [0, 1, 7, 8], [4]]
@[go_sem] noncomputable def s_indexBad_K : Known := (Known.nil).cons 192 ctBadSet s_badSet s_badSet_e
set_option maxHeartbeats 8000000 in
theorem s_indexBad : Sound Tryz.prog 218 ctIndexBad := by
 have ke := s_indexBad_K.env []
 have kl : Lives s_indexBad_lv := trivial
 refine sound_intro (E := ⟨ti, s_indexBad_K.Γ, []⟩) ke Tryz.func218 Tryz.ntmps218 rfl (rs := [.tmp 4]) rfl ?_
 intro args os hp
 unfold ctIndexBad at hp ⊢
 dsimp only at hp ⊢
 split at hp
 ·rename_i ys xs
  refine ⟨by simp, fun φ0 w0 => ?_⟩
  obtain ⟨hx, hlen⟩ : xs.length ≤ 4000000 ∧ ys.length ≤ 4000000 := hp
  refine goh trivial ?_
  refine W_le (σ' := sgIxB xs ys 0) [some 0] (by
   simp only [go_sem, inj_r, ↓reduceIte, reduceCtorEq, Nat.reduceAdd, Nat.reduceLT, Nat.reduceLeDiff, Nat.reduceEqDiff, Int.reduceEq]
   all_goals (repeat' refine And.intro ?_ ?_) <;> try exact shut7
   ) ?_
  refine W_loop (fun n σ => ∃ i : Nat, i ≤ ys.length ∧ n = ys.length - i ∧ (∀ j, j < i → leadsN xs xs.length (ys.getD j ET.bset.dflt) = true) ∧ σ = sgIxB xs ys i) ys.length ⟨0, by omega, by omega, by omega, rfl⟩ ?_
  rintro n σ ⟨i, hi, rfl, hbef, rfl⟩
  unfold sgIxB
  refine goh trivial ?_
  refine W_cnd ?_ ?_ <;> (try simp only [cnd_r]) <;> intro hlt
  ·refine goh trivial ?_
   refine W_cond _ (by exact rfl) (by exact trivial) ?_ ?_ <;> intro hl
   ·have e : firstAt (fun s => !leadsN xs xs.length s) ys = i := firstAt_some (d := ET.bset.dflt) (by omega) (fun j hj => by show (!leadsN xs xs.length (ys.getD j ET.bset.dflt)) = false; rw [hbef j hj]; rfl) hl
    refine goh trivial ?_
    exact finh [some 0] e
   ·have hl2 : leadsN xs xs.length (ys.getD i ET.bset.dflt) = true := by simpa using hl
    refine goh trivial ?_
    refine ⟨ys.length - (i + 1), [some 0], sgIxB xs ys (i + 1), by omega, ?_, i + 1, by omega, rfl, fun j hj => ?_, rfl⟩
    ·exact leh trivial
    ·rcases Nat.lt_succ_iff_lt_or_eq.1 hj with h | rfl
     ·exact hbef j h
     ·exact hl2
  ·have e : firstAt (fun s => !leadsN xs xs.length s) ys = -1 := firstAt_none (d := ET.bset.dflt) fun j hj => by show (!leadsN xs xs.length (ys.getD j ET.bset.dflt)) = false; rw [hbef j (by omega)]; rfl
   refine goh trivial ?_
   exact finh [some 0] e
 ·simp [no, ifp] at hp
@[go_sem] noncomputable def ctHasBad : Ct := ⟨true, [[some .bset]], fun args os => match args, os with
  | [.one (.isl .bset ys), .one (.fn 192 [(0, 0)])], [.cells [.isl .bset xs]] => ifp (xs.length ≤ 4000000 ∧ ys.length ≤ 4000000) (vb (ys.any (fun s => !leadsN xs xs.length s)))
  | _, _ => no⟩
theorem s_hasBad_e : EnterOk Tryz.prog 191 := ⟨_, Tryz.func191, rfl, by decide⟩
@[go_sem] def s_hasBad_lv : List (List Nat) := [[0, 1], [4]]
@[go_sem] noncomputable def s_hasBad_K : Known := (Known.nil).cons 218 ctIndexBad s_indexBad s_indexBad_e
set_option maxHeartbeats 8000000 in
theorem s_hasBad : Sound Tryz.prog 191 ctHasBad := by
 have ke := s_hasBad_K.env []
 have kl : Lives s_hasBad_lv := trivial
 refine sound_intro (E := ⟨ti, s_hasBad_K.Γ, []⟩) ke Tryz.func191 Tryz.ntmps191 rfl (rs := [.tmp 4]) rfl ?_
 intro args os hp
 unfold ctHasBad at hp ⊢
 dsimp only at hp ⊢
 split at hp
 ·rename_i ys xs
  refine ⟨by simp, fun φ0 w0 => ?_⟩
  obtain ⟨hx, hlen⟩ : xs.length ≤ 4000000 ∧ ys.length ≤ 4000000 := hp
  refine goh trivial ?_
  refine ⟨by (simp only [go_sem, ↓reduceIte, reduceCtorEq, Nat.reduceAdd, Nat.reduceLT, Nat.reduceLeDiff, Nat.reduceEqDiff]) <;> trivial, [some 0], ?_⟩
  all_goals try simp only [go_sem, inj_r, ↓reduceIte, reduceCtorEq, Nat.reduceAdd, Nat.reduceLT, Nat.reduceLeDiff, Nat.reduceEqDiff, Int.reduceEq]
  all_goals (repeat' refine And.intro ?_ ?_) <;> try exact shut7
  exact firstAt_ge _ _
 ·simp [no, ifp] at hp
@[go_sem] noncomputable def ctBookOk : Ct := ⟨false, [[some .bset]], fun args os => match args, os with
  | [.agg [.isl .bset xs]], [] => ifp (xs.length ≤ 4000000 ∧ ∀ i : Nat, (xs.getD i ET.bset.dflt).name.size ≤ 9223372036854775807) (vb (bookB xs))
  | _, _ => no⟩
@[go_sem] def sgBookOk (xs : List BSet) (i : Nat) : Sg := ⟨[(1, .one (.ptr 0 0)), (10, .one (.isl .bset xs)), (11, vi xs.length), (12, vi i)], [some (.cells [.isl .bset xs])], []⟩
theorem s_bookOk_e : EnterOk Tryz.prog 132 := ⟨_, Tryz.func132, rfl, by decide⟩
@[go_sem] def s_bookOk_lv : List (List Nat) := [[1], [1, 8], [2], [1, 10, 11, 12], [1, 10, 11, 12, 13], [1, 3, 4, 10, 11, 12], [1, 10, 11, 12, 51], [2], [1, 10, 11, 12], [2]]
@[go_sem] noncomputable def s_bookOk_K : Known := (((((Known.nil).cons 189 ctName s_bookName s_bookName_e).cons 124 ctHas24 s_has24 s_has24_e).cons 190 ctLong24 s_long24 s_long24_e).cons 191 ctHasBad s_hasBad s_hasBad_e).cons 192 ctBadSet s_badSet s_badSet_e
set_option maxHeartbeats 8000000 in
theorem s_bookOk : Sound Tryz.prog 132 ctBookOk := by
 have ke := s_bookOk_K.env []
 have kl : Lives s_bookOk_lv := trivial
 refine sound_intro (E := ⟨ti, s_bookOk_K.Γ, []⟩) ke Tryz.func132 Tryz.ntmps132 rfl (rs := [.tmp 2]) rfl ?_
 intro args os hp
 unfold ctBookOk at hp ⊢
 dsimp only at hp ⊢
 split at hp
 ·rename_i xs
  refine ⟨by simp, fun φ0 w0 => ?_⟩
  obtain ⟨hlen, hsz⟩ : xs.length ≤ 4000000 ∧ ∀ i : Nat, (xs.getD i ET.bset.dflt).name.size ≤ 9223372036854775807 := hp
  refine goh trivial ?_
  refine W_cnd ?_ ?_ <;> (try simp only [cnd_r]) <;> intro hc
  ·have e : bookB xs = false := bookB_false.2 fun h => by have := h.few; omega
   refine goh trivial ?_
   exact finh [] e
  ·refine goh trivial ?_
   refine W_le (σ' := sgBookOk xs 0) [some 0] (by
    simp only [go_sem, inj_r, ↓reduceIte, reduceCtorEq, Nat.reduceAdd, Nat.reduceLT, Nat.reduceLeDiff, Nat.reduceEqDiff, Int.reduceEq]
    all_goals (repeat' refine And.intro ?_ ?_) <;> try exact shut7
    ) ?_
   refine W_loop (fun q σ => ∃ i : Nat, i ≤ xs.length ∧ q = xs.length - i ∧ (∀ j, j < i → SetOk xs j) ∧ σ = sgBookOk xs i) xs.length ⟨0, by omega, by omega, by omega, rfl⟩ ?_
   rintro q σ ⟨i, hi, rfl, hbef, rfl⟩
   unfold sgBookOk
   refine goh trivial ?_
   refine W_cnd ?_ ?_ <;> (try simp only [cnd_r]) <;> intro hlt
   ·have hsz1 := hsz i
    have w1 : IntKind.i64.wrap ((i : Int) - 1) = (i : Int) - 1 := wrap_id _ (by omega) (by omega)
    have ht : ((i : Int) - 1).toNat = i - 1 := by omega
    refine goh (And.intro w1 ht) ?_
    refine W_cond _ (by exact rfl) (by exact trivial) ?_ ?_ <;> intro hb
    ·have e : bookB xs = false := bookB_false.2 fun h => by
      obtain ⟨h1, h2, h3, h4⟩ := h.each i (by omega)
      unfold lessB at h2
      unfold big8 at h4
      simp only [List.any_cons, List.any_nil, Bool.or_false] at h4
      have hx := (bad_expr _ _ _ _ _ _).2 ⟨h1, fun hp : (i : Int) > 0 => h2 (by omega), (show ((xs.getD i ET.bset.dflt).kind != 1) = false ∨ ((xs.getD i ET.bset.dflt).kind != 2) = false from h3.elim (fun h => .inl (by rw [h]; rfl)) (fun h => .inr (by rw [h]; rfl))), h4⟩
      rw [hx] at hb
      cases hb
     refine goh trivial ?_
     exact finh [] e
    ·obtain ⟨h1, h2, h3, h4⟩ := (bad_expr _ _ _ _ _ _).1 hb
     have h3' : (xs.getD i ET.bset.dflt).kind = 1 ∨ (xs.getD i ET.bset.dflt).kind = 2 := by
      rcases h3 with h | h
      ·exact .inl (by simpa only [bne_eq_false_iff_eq] using h)
      ·exact .inr (by simpa only [bne_eq_false_iff_eq] using h)
     have h4' : big8 (xs.getD i ET.bset.dflt) = false := by
      unfold big8
      simp only [List.any_cons, List.any_nil, Bool.or_false]
      exact h4
     have hs : SetOk xs i := ⟨h1, fun hp => h2 (by omega), h3', h4'⟩
     refine goh trivial ?_
     refine ⟨xs.length - (i + 1), [some 0], sgBookOk xs (i + 1), by omega, ?_, i + 1, by omega, rfl, fun j hj => ?_, rfl⟩
     ·exact leh trivial
     ·rcases Nat.lt_succ_iff_lt_or_eq.1 hj with h | rfl
      ·exact hbef j h
      ·exact hs
   ·have e : bookB xs = !xs.any (fun s => !leadsN xs xs.length s) := by
     cases ha : xs.any (fun s => !leadsN xs xs.length s) with
     | false => exact bookB_true.2 ⟨by omega, fun i hi => hbef i (by omega), ha⟩
     | true => exact bookB_false.2 fun h => by rw [h.leads] at ha; cases ha
    refine goh trivial ?_
    exact finh [] e
 ·simp [no, ifp] at hp
end Go.Proofs.YtfmjgoeclilcnaaGreatDoor
namespace Go.Proofs.YtfmjgoeclilcnaaGreatDoor
open Go.RowKit
@[go_sem] noncomputable def ctAt : Ct := ⟨false, [[some .bset]], fun args os => match args, os with
  | [.agg [.isl .bset xs], .one (.val (.string name))], [] => ifp (xs.length ≤ 4000000) (.tup [vi (lowN xs name), vb (thereB xs name)])
  | _, _ => no⟩
@[go_sem] def sgAt (xs : List BSet) (name : ByteArray) (k : Nat) : Sg := ⟨[(1, vs name), (2, .one (.ptr 0 0)), (6, vi k)], [some (.cells [.isl .bset xs])], []⟩
theorem s_l4At_e : EnterOk Tryz.prog 209 := ⟨_, Tryz.func209, rfl, by decide⟩
@[go_sem] def s_l4At_lv : List (List Nat) := [[1, 2], [1, 2, 6], [1, 2, 6, 21], [1, 2, 6], [4, 5]]
@[go_sem] noncomputable def s_l4At_K : Known := Known.nil
set_option maxHeartbeats 8000000 in
theorem s_l4At : Sound Tryz.prog 209 ctAt := by
 have ke := s_l4At_K.env []
 have kl : Lives s_l4At_lv := trivial
 refine sound_intro (E := ⟨ti, s_l4At_K.Γ, []⟩) ke Tryz.func209 Tryz.ntmps209 rfl (rs := [.tmp 4, .tmp 5]) rfl ?_
 intro args os hp
 unfold ctAt at hp ⊢
 dsimp only at hp ⊢
 split at hp
 ·rename_i xs name
  refine ⟨by simp, fun φ0 w0 => ?_⟩
  have hlen : xs.length ≤ 4000000 := hp
  refine goh trivial ?_
  refine W_le (σ' := sgAt xs name 0) [some 0] (by
   simp only [go_sem, inj_r, ↓reduceIte, reduceCtorEq, Nat.reduceAdd, Nat.reduceLT, Nat.reduceLeDiff, Nat.reduceEqDiff, Int.reduceEq]
   all_goals (repeat' refine And.intro ?_ ?_) <;> try exact shut7
   ) ?_
  refine W_loop (fun q σ => ∃ k : Nat, k ≤ xs.length ∧ q = xs.length - k ∧ (∀ j, j < k → lessB (xs.getD j ET.bset.dflt).name name = true) ∧ σ = sgAt xs name k) xs.length ⟨0, by omega, by omega, by omega, rfl⟩ ?_
  rintro q σ ⟨k, hk, rfl, hbef, rfl⟩
  unfold sgAt
  refine goh trivial ?_
  refine W_cond _ (by exact rfl) (by exact trivial) ?_ ?_ <;> intro hc
  ·have hc2 : k < xs.length ∧ lessB (xs.getD k ET.bset.dflt).name name = true := by
    unfold lessB
    simpa using hc
   refine goh trivial ?_
   refine ⟨xs.length - (k + 1), [some 0], sgAt xs name (k + 1), by omega, ?_, k + 1, by omega, rfl, fun j hj => ?_, rfl⟩
   ·exact leh trivial
   ·rcases Nat.lt_succ_iff_lt_or_eq.1 hj with h | rfl
    ·exact hbef j h
    ·exact hc2.2
  ·have hs : k = xs.length ∨ lessB (xs.getD k ET.bset.dflt).name name = false := by
    by_cases h : k < xs.length
    ·right
     unfold lessB
     have h2 : (k : Int) < xs.length := by omega
     simpa [h2] using hc
    ·left; omega
   have e := lowN_eq hk hbef hs
   refine goh trivial ?_
   refine ⟨by (simp only [go_sem, e, ↓reduceIte, reduceCtorEq, Nat.reduceAdd, Nat.reduceLT, Nat.reduceLeDiff, Nat.reduceEqDiff]) <;> trivial, [], ?_⟩
   all_goals try simp only [go_sem, e, inj_r, ↓reduceIte, reduceCtorEq, Nat.reduceAdd, Nat.reduceLT, Nat.reduceLeDiff, Nat.reduceEqDiff, Int.reduceEq]
   all_goals (repeat' refine And.intro ?_ ?_) <;> try exact shut7
   unfold thereB
   rw [e]
   by_cases h : (k : Int) < xs.length
   ·rw [if_pos h, decide_eq_true (show k < xs.length by omega), Bool.true_and]
   ·rw [if_neg h, decide_eq_false (show ¬ k < xs.length by omega), Bool.false_and]
 ·simp [no, ifp] at hp
@[go_sem] noncomputable def ctRoots : Ct := ⟨false, [[some .bset], []], fun args os => match args, os with
  | [.agg [.isl .bset xs], .agg cs], [] => (match bsetOf cs with | some s => ifp (xs.length ≤ 4000000 ∧ Sorted xs) (vb (leadsN xs (xs.length + 1) s)) | none => no)
  | _, _ => no⟩
@[go_sem] def sgRoots (xs : List BSet) (s : BSet) (i : Nat) : Sg := ⟨[(2, .one (.ptr 0 0)), (3, .one (.ptr 1 0)), (5, vi i)], [some (.cells [.isl .bset xs]), some (.cells ((ET.bset.cells s).map .val))], []⟩
theorem s_roots_e : EnterOk Tryz.prog 176 := ⟨_, Tryz.func176, rfl, by decide⟩
@[go_sem] def s_roots_lv : List (List Nat) := [[2, 3], [2, 3, 5], [2, 3, 5, 12], [2, 3, 5], [2, 3, 5, 17], [4], [2, 3, 5, 6, 7], [2, 3, 5, 6, 40], [4], [2, 3, 5], [4]]
@[go_sem] noncomputable def s_roots_K : Known := (Known.nil).cons 209 ctAt s_l4At s_l4At_e
set_option maxHeartbeats 8000000 in
theorem s_roots : Sound Tryz.prog 176 ctRoots := by
 have ke := s_roots_K.env []
 have kl : Lives s_roots_lv := trivial
 refine sound_intro (E := ⟨ti, s_roots_K.Γ, []⟩) ke Tryz.func176 Tryz.ntmps176 rfl (rs := [.tmp 4]) rfl ?_
 intro args os hp
 unfold ctRoots at hp ⊢
 dsimp only at hp ⊢
 split at hp
 ·rename_i xs cs
  split at hp
  ·rename_i s0 hs0
   obtain rfl := bsetOf_some hs0
   obtain ⟨hlen, hso⟩ : xs.length ≤ 4000000 ∧ Sorted xs := hp
   clear hs0
   refine ⟨by simp, fun φ0 w0 => ?_⟩
   obtain ⟨R, hR⟩ : ∃ R, leadsN xs (xs.length + 1) s0 = R := ⟨_, rfl⟩
   refine goh trivial ?_
   refine W_le (σ' := sgRoots xs s0 0) [some 0, some 1] (by
    simp only [go_sem, inj_r, ↓reduceIte, reduceCtorEq, Nat.reduceAdd, Nat.reduceLT, Nat.reduceLeDiff, Nat.reduceEqDiff, Int.reduceEq]
    all_goals (repeat' refine And.intro ?_ ?_) <;> try exact shut7
    ) ?_
   refine W_loop (fun q σ => ∃ (i : Nat) (s : BSet), i ≤ xs.length + 1 ∧ q = xs.length + 1 - i ∧ leadsN xs (xs.length + 1 - i) s = R ∧ σ = sgRoots xs s i) (xs.length + 1) ⟨0, s0, by omega, by omega, hR, rfl⟩ ?_
   rintro q σ ⟨i, s, hi, rfl, hs, rfl⟩
   unfold sgRoots
   refine goh trivial ?_
   refine W_cnd ?_ ?_ <;> (try simp only [cnd_r]) <;> intro hlt
   ·obtain ⟨m, hm⟩ : ∃ m, xs.length + 1 - i = m + 1 := ⟨xs.length - i, by omega⟩
    rw [hm] at hs
    unfold leadsN at hs
    refine goh trivial ?_
    refine W_cond _ (by exact rfl) (by exact trivial) ?_ ?_ <;> intro hf
    ·rw [if_pos hf] at hs
     have e : leadsN xs (xs.length + 1) s0 = (s.kind == 1) := by rw [hR, ← hs]
     refine goh trivial ?_
     exact finh [] e
    ·rw [if_neg (by rw [hf]; decide)] at hs
     obtain ⟨a1, a2⟩ := at_low hso s.from_
     cases ht : thereB xs s.from_ with
     | false =>
       have e : leadsN xs (xs.length + 1) s0 = false := by rw [hR, ← hs, if_pos (.inl (a2 ht))]
       repeat' first
        | with_reducible refine red ?_
        | refine W_seq ?_
        | (refine W_reg (s_roots_K.env []) s_roots_lv fun K' hK' => ?_
           simp only [go_sem, ht, Bool.not_false, Bool.not_true, Bool.false_eq_true, ↓reduceIte, ↓reduceDIte, reduceCtorEq, Nat.reduceAdd, Nat.reduceMul, Nat.reduceSub, Nat.reduceDiv, Nat.reduceMod, Nat.reduceLT, Nat.reduceLeDiff, Nat.reduceEqDiff, Nat.reduceBEq, Int.reduceToNat, Int.reduceLE, Int.reduceLT, Int.reduceEq, Int.reduceNe, Int.reduceNeg]
           (repeat' refine And.intro ?_ ?_) <;> try first | with_reducible refine hK' ?_ | exact shut6)
        | with_reducible refine blockG_o (by decide) ?_
       all_goals try (intro hgd; cases hgd; done)
       refine W_cnd ?_ ?_ <;> intro hlit <;> try (cases hlit; done)
       refine goh trivial ?_
       exact finh [] e
     | true =>
       have hat := a1 ht
       have hlow : lowN xs s.from_ < xs.length := by
        unfold thereB at ht
        rw [Bool.and_eq_true, decide_eq_true_eq] at ht
        exact ht.1
       have hset : setOf xs s.from_ = xs.getD (lowN xs s.from_) ET.bset.dflt := by unfold setOf; rw [hat]; rfl
       rw [hat, hset] at hs
       refine goh ht ?_
       refine W_cnd ?_ ?_ <;> (try simp only [cnd_r]) <;> intro hc
       ·have e : leadsN xs (xs.length + 1) s0 = false := by rw [hR, ← hs, if_pos (.inr hc)]
        refine goh trivial ?_
        exact finh [] e
       ·have hc2 : ¬ (xs.getD (lowN xs s.from_) ET.bset.dflt).kind = s.kind := by
         first | exact hc | (rw [beq_eq_false_iff_ne] at hc; exact hc)
        rw [if_neg (fun h => h.elim (by omega) hc2)] at hs
        refine goh trivial ?_
        refine ⟨xs.length + 1 - (i + 1), [some 0, some 1], sgRoots xs (xs.getD (lowN xs s.from_) ET.bset.dflt) (i + 1), by omega, ?_, i + 1, _, by omega, rfl, ?_, rfl⟩
        ·exact leh trivial
        ·rw [show xs.length + 1 - (i + 1) = m by omega]; exact hs
   ·have h0 : xs.length + 1 - i = 0 := by omega
    rw [h0] at hs
    have e : leadsN xs (xs.length + 1) s0 = false := by rw [hR, ← hs]; rfl
    refine goh trivial ?_
    exact finh [] e
  ·simp [no] at hp
 ·simp [no] at hp
end Go.Proofs.YtfmjgoeclilcnaaGreatDoor
namespace Go.Proofs.YtfmjgoeclilcnaaGreatDoor
open Go.RowKit
def blk8 (x : BSet) : List ByteArray := [x.blocks.x0, x.blocks.x1, x.blocks.x2, x.blocks.x3, x.blocks.x4, x.blocks.x5, x.blocks.x6, x.blocks.x7]
@[go_sem] def sgSb (xs : List BSet) (i : Nat) : Sg := ⟨[(1, .one (.ptr 0 0)), (3, vi i)], [some (.cells [.isl .bset xs])], []⟩
@[go_sem] def sgSj (xs : List BSet) (s : BSet) (i j : Nat) : Sg := ⟨[(1, .one (.ptr 0 0)), (3, vi i), (4, .one (.ptr 1 0)), (5, vi j)], [some (.cells [.isl .bset xs]), some (.cells ((ET.bset.cells s).map .val))], []⟩
@[go_sem] def sgSr2 (xs : List BSet) (i : Nat) : Sg := ⟨[(1, .one (.ptr 0 0)), (6, vi i)], [some (.cells [.isl .bset xs])], []⟩
theorem bad2 (A B G1 G2 : Bool) (P : Prop) [Decidable P] : (if (if (if (!A) = true then true else if P then B else false) = true then true else G1) = true then true else G2) = false ↔ A = true ∧ (P → B = false) ∧ G1 = false ∧ G2 = false := by
 by_cases h : P <;> cases A <;> cases B <;> cases G1 <;> cases G2 <;> simp [h]
theorem less_or (s p : ByteArray) : (Op.bytesLess s.toList p.toList || same s p) = false ↔ lessB p s = true := by
 rw [Bool.or_eq_false_iff, same_false]
 constructor
 ·rintro ⟨h1, h2⟩
  rcases less_total s p with h | h | h
  ·unfold lessB at h; rw [h] at h1; cases h1
  ·exact absurd h h2
  ·exact h
 ·intro h
  refine ⟨?_, fun he => ?_⟩
  ·rw [← Bool.not_eq_true]
   intro h2
   have := less_trans h h2
   rw [less_irrefl] at this; cases this
  ·rw [he, less_irrefl] at h; cases h
theorem sorted_of {xs : List BSet} (h : ∀ j, j < xs.length → SetOk xs j) : Sorted xs := ⟨fun i h0 hi => (h i hi).less h0⟩
theorem s_specBookOk_e : EnterOk Tryz.prog 109 := ⟨_, Tryz.func109, rfl, by decide⟩
@[go_sem] def s_specBookOk_lv : List (List Nat) := [[1], [1, 10], [2], [1, 3], [1, 3, 15], [1, 3], [1, 3, 4], [1, 3, 4, 52], [2], [1, 3, 4, 5], [1, 3, 4, 5, 54], [1, 3, 4, 5], [1, 3, 4, 5, 62], [2], [1, 6], [1, 6, 67], [1, 6], [1, 6, 77], [2], [2]]
@[go_sem] noncomputable def s_specBookOk_K : Known := ((Known.nil).cons 175 ctName s_specName s_specName_e).cons 176 ctRoots s_roots s_roots_e
set_option maxHeartbeats 8000000 in
theorem s_specBookOk : Sound Tryz.prog 109 ctBookOk := by
 have ke := s_specBookOk_K.env []
 have kl : Lives s_specBookOk_lv := trivial
 refine sound_intro (E := ⟨ti, s_specBookOk_K.Γ, []⟩) ke Tryz.func109 Tryz.ntmps109 rfl (rs := [.tmp 2]) rfl ?_
 intro args os hp
 unfold ctBookOk at hp ⊢
 dsimp only at hp ⊢
 split at hp
 ·rename_i xs
  refine ⟨by simp, fun φ0 w0 => ?_⟩
  obtain ⟨hlen, hsz⟩ : xs.length ≤ 4000000 ∧ ∀ i : Nat, (xs.getD i ET.bset.dflt).name.size ≤ 9223372036854775807 := hp
  refine goh trivial ?_
  refine W_cnd ?_ ?_ <;> (try simp only [cnd_r]) <;> intro hc
  ·have e : bookB xs = false := bookB_false.2 fun h => by have := h.few; omega
   refine goh trivial ?_
   exact finh [] e
  ·refine goh trivial ?_
   refine W_le (σ' := sgSb xs 0) [some 0] (by
    simp only [go_sem, inj_r, ↓reduceIte, reduceCtorEq, Nat.reduceAdd, Nat.reduceLT, Nat.reduceLeDiff, Nat.reduceEqDiff, Int.reduceEq]
    all_goals (repeat' refine And.intro ?_ ?_) <;> try exact shut7
    ) ?_
   refine W_loop (fun q σ => ∃ i : Nat, i ≤ xs.length ∧ q = xs.length - i ∧ (∀ j, j < i → SetOk xs j) ∧ σ = sgSb xs i) xs.length ⟨0, by omega, by omega, by omega, rfl⟩ ?_
   rintro q σ ⟨i, hi, rfl, hbef, rfl⟩
   unfold sgSb
   refine goh trivial ?_
   refine W_cnd ?_ ?_ <;> (try simp only [cnd_r]) <;> intro hlt
   ·have hsz1 := hsz i
    have w1 : IntKind.i64.wrap ((i : Int) - 1) = (i : Int) - 1 := wrap_id _ (by omega) (by omega)
    have ht : ((i : Int) - 1).toNat = i - 1 := by omega
    refine goh (And.intro w1 ht) ?_
    refine W_cond _ (by exact rfl) (by exact trivial) ?_ ?_ <;> intro hb
    ·have e : bookB xs = false := bookB_false.2 fun h => by
      obtain ⟨h1, h2, h3, -⟩ := h.each i (by omega)
      have hx := (bad2 _ _ _ _ _).2 ⟨h1, fun hp : (i : Int) > 0 => (less_or _ _).2 (h2 (by omega)), (show decide ((xs.getD i ET.bset.dflt).kind < 1) = false by rw [decide_eq_false_iff_not]; omega), (show decide ((xs.getD i ET.bset.dflt).kind > 2) = false by rw [decide_eq_false_iff_not]; omega)⟩
      rw [hx] at hb
      cases hb
     refine goh trivial ?_
     exact finh [] e
    ·obtain ⟨h1, h2, h3, h4⟩ := (bad2 _ _ _ _ _).1 hb
     rw [decide_eq_false_iff_not] at h3 h4
     obtain ⟨s, hs⟩ : ∃ s, xs.getD i ET.bset.dflt = s := ⟨_, rfl⟩
     refine goh trivial ?_
     refine W_le (σ' := sgSj xs (xs.getD i ET.bset.dflt) i 0) [some 0, some 1] (by
      simp only [go_sem, inj_r, ↓reduceIte, reduceCtorEq, Nat.reduceAdd, Nat.reduceLT, Nat.reduceLeDiff, Nat.reduceEqDiff, Int.reduceEq]
      all_goals (repeat' refine And.intro ?_ ?_) <;> try exact shut7
      ) ?_
     rw [hs] at h1 h2 h3 h4 ⊢
     refine W_loop (fun q σ => ∃ j : Nat, j ≤ 8 ∧ q = 8 - j ∧ ((blk8 s).take j).any long24 = false ∧ σ = sgSj xs s i j) 8 ⟨0, by omega, by omega, rfl, rfl⟩ ?_
     rintro q σ ⟨j, hj, rfl, hbl, rfl⟩
     unfold sgSj
     rcases (show j < 8 ∨ j = 8 by omega) with hj8 | hc8
     ·rcases (show j = 0 ∨ j = 1 ∨ j = 2 ∨ j = 3 ∨ j = 4 ∨ j = 5 ∨ j = 6 ∨ j = 7 by omega) with hc8 | hc8 | hc8 | hc8 | hc8 | hc8 | hc8 | hc8
      all_goals
       refine goh hc8 ?_
       refine W_cnd ?_ ?_ <;> intro hlit <;> try (cases hlit; done)
       refine goh hc8 ?_
       refine W_cnd ?_ ?_ <;> (try simp only [cnd_r]) <;> intro hl
       ·have hbig : big8 s = true := by
         unfold big8
         simp only [List.any_cons, List.any_nil, Bool.or_false, Bool.or_eq_true, long24, decide_eq_true_eq]
         omega
        have e : bookB xs = false := bookB_false.2 fun h => by
         have h5 := (h.each i (by omega)).small
         rw [hs, hbig] at h5; cases h5
        refine goh trivial ?_
        exact finh [] e
       ·refine goh hc8 ?_
        refine ⟨8 - (j + 1), [some 0, some 1], sgSj xs s i (j + 1), by omega, ?_, j + 1, by omega, rfl, ?_, rfl⟩
        ·exact leh hc8
        ·rw [hc8] at hbl ⊢
         simp only [blk8, List.take_succ_cons, List.take_zero, List.any_cons, List.any_nil, Bool.or_false, Bool.or_eq_false_iff, long24, decide_eq_false_iff_not] at hbl ⊢
         omega
     ·rw [hc8] at hbl
      have hsm : big8 s = false := hbl
      have hset : SetOk xs i := ⟨by rw [hs]; exact h1, fun hp => by rw [hs]; exact (less_or _ _).1 (h2 (by omega)), by rw [hs]; omega, by rw [hs]; exact hsm⟩
      refine goh hc8 ?_
      refine W_cnd ?_ ?_ <;> intro hlit <;> try (cases hlit; done)
      refine goh trivial ?_
      refine ⟨xs.length - (i + 1), [some 0], sgSb xs (i + 1), by omega, ?_, i + 1, by omega, rfl, fun j hj => ?_, rfl⟩
      ·exact leh trivial
      ·rcases Nat.lt_succ_iff_lt_or_eq.1 hj with h | rfl
       ·exact hbef j h
       ·exact hset
   ·refine goh trivial ?_
    refine W_le (σ' := sgSr2 xs 0) [some 0] (by
     simp only [go_sem, inj_r, ↓reduceIte, reduceCtorEq, Nat.reduceAdd, Nat.reduceLT, Nat.reduceLeDiff, Nat.reduceEqDiff, Int.reduceEq]
     all_goals (repeat' refine And.intro ?_ ?_) <;> try exact shut7
     ) ?_
    have hall : ∀ j, j < xs.length → SetOk xs j := fun j hj => hbef j (by omega)
    have hso := sorted_of hall
    refine W_loop (fun q σ => ∃ i : Nat, i ≤ xs.length ∧ q = xs.length - i ∧ (∀ j, j < i → leadsN xs xs.length (xs.getD j ET.bset.dflt) = true) ∧ σ = sgSr2 xs i) xs.length ⟨0, by omega, by omega, by omega, rfl⟩ ?_
    clear hbef hlt hi
    clear i
    rintro q σ ⟨i, hi, rfl, hbef, rfl⟩
    unfold sgSr2
    refine goh trivial ?_
    refine W_cnd ?_ ?_ <;> (try simp only [cnd_r]) <;> intro hlt
    ·have hm := leads_more xs i (by omega)
     refine goh hm ?_
     refine W_cond _ (by exact rfl) (by exact trivial) ?_ ?_ <;> intro hl
     ·have e : bookB xs = false := bookB_false.2 fun h => by
       have h1 := h.leads
       rw [List.any_eq_false] at h1
       have h2 := h1 (xs.getD i ET.bset.dflt) (by simp [show i < xs.length by omega])
       simp only [Bool.not_eq_true', Bool.not_eq_false] at h2 hl
       rw [hl] at h2
       simp at h2
      refine goh trivial ?_
      exact finh [] e
     ·have hl2 : leadsN xs xs.length (xs.getD i ET.bset.dflt) = true := by simpa only [Bool.not_eq_false'] using hl
      refine goh trivial ?_
      refine ⟨xs.length - (i + 1), [some 0], sgSr2 xs (i + 1), by omega, ?_, i + 1, by omega, rfl, fun j hj => ?_, rfl⟩
      ·exact leh trivial
      ·rcases Nat.lt_succ_iff_lt_or_eq.1 hj with h | rfl
       ·exact hbef j h
       ·exact hl2
    ·have e : bookB xs = true := bookB_true.2 ⟨by omega, hall, by
      rw [List.any_eq_false]
      intro s hs
      obtain ⟨j, hj, rfl⟩ := List.getElem_of_mem hs
      have h1 := hbef j (by omega)
      rw [show xs.getD j ET.bset.dflt = xs[j] by simp [hj]] at h1
      rw [h1]; decide⟩
     refine goh trivial ?_
     exact finh [] e
 ·simp [no, ifp] at hp
end Go.Proofs.YtfmjgoeclilcnaaGreatDoor
namespace Go.Proofs.YtfmjgoeclilcnaaGreatDoor
open Go.RowKit
theorem may_iff (d : Dk) (s k : Int) (t : ByteArray) : d.may s k t = true ↔ (s = 0 ∨ s = 1) ∧ 0 ≤ k ∧ k < d.a.length ∧ t.size ≤ 420 ∧ d.l.length < 600 := by
 unfold Dk.may fits
 simp only [Bool.and_eq_true, decide_eq_true_eq]
 omega
theorem snoc_getD {α : Type} (l : List α) (x d : α) (i : Nat) : (l ++ [x]).getD i d = if i = l.length then x else l.getD i d := by
 simp only [List.getD_eq_getElem?_getD]
 by_cases h : i = l.length
 ·subst h; simp
 ·rw [if_neg h]
  rcases Nat.lt_or_ge i l.length with h' | h'
  ·rw [List.getElem?_append_left h']
  ·rw [List.getElem?_eq_none (by simp; omega), List.getElem?_eq_none (by omega)]
theorem Dk.add_ok {d : Dk} (h : d.ok = true) {s k : Int} {t : ByteArray} (hm : d.may s k t = true) : (d.add s k t).ok = true := by
 obtain ⟨m1, m2, m3, m4, m5⟩ := (may_iff d s k t).1 hm
 rw [Dk.ok_iff] at h ⊢
 obtain ⟨h1, h2, h3, h4, h5, h6, h7⟩ := h
 refine ⟨h1, h2, h3, ?_, h5, h6, fun j hj => ?_⟩
 ·show (d.l ++ [_]).length ≤ 600
  rw [List.length_append]; simp only [List.length_cons, List.length_nil]; omega
 ·show badLate d.a.length ((d.l ++ [(⟨s, k, t⟩ : Late)]).getD j ET.late.dflt) = false
  rw [snoc_getD]
  split
  ·unfold badLate sector long
   simp only [Bool.or_eq_false_iff, Bool.not_eq_false', Bool.and_eq_true, decide_eq_true_eq, decide_eq_false_iff_not]
   omega
  ·rename_i hne
   refine h7 j ?_
   have : (d.l ++ [(⟨s, k, t⟩ : Late)]).length = d.l.length + 1 := by simp
   have hj' : j < (d.l ++ [(⟨s, k, t⟩ : Late)]).length := hj
   omega
end Go.Proofs.YtfmjgoeclilcnaaGreatDoor
namespace Go.Proofs.YtfmjgoeclilcnaaGreatDoor
open Go.RowKit
theorem Dk.ext' {d e : Dk} (h1 : d.a = e.a) (h2 : d.b = e.b) (h3 : d.l = e.l) : d = e := by
 cases d; cases e; simp_all
end Go.Proofs.YtfmjgoeclilcnaaGreatDoor
namespace Go.Proofs.YtfmjgoeclilcnaaGreatDoor
open Go.RowKit
@[go_sem] def Dk.cs (d : Dk) (n : Nat) : List TC := [.osl .str n 0 d.a.length, .osl .str (n + 1) 0 d.b.length, .osl .late (n + 2) 0 d.l.length]
theorem may_eq (d : Dk) (s k : Int) (t : ByteArray) : d.may s k t = (sector d.a.length s k && !(long t) && decide (d.l.length < 600)) := by
 unfold Dk.may fits sector long
 rw [Bool.eq_iff_iff]
 simp only [Bool.and_eq_true, decide_eq_true_eq, Bool.not_eq_true', decide_eq_false_iff_not]
 omega
@[go_sem] def ctWrite : Ct := ⟨true, [], fun args os => match args, os with
  | [.one (.ptr 0 0), .one (.val (.int .i64 s)), .one (.val (.int .i64 k)), .one (.val (.string t))], [.cells [.osl .str 1 0 na, .osl .str 2 0 nb, .osl .late 3 0 nl], .arr .str a, .arr .str b, .arr .late l] =>
    if (Dk.mk a b l).may s k t then ⟨(Dk.mk a b l).small ∧ na = a.length ∧ nb = b.length ∧ nl = l.length, vb true, [(0, some (.cells [.osl .str 1 0 na, .osl .str 2 0 nb, .osl .late 4 0 (nl + 1)])), (3, none)], [.arr .late (l ++ [⟨s, k, t⟩])]⟩
    else ⟨(Dk.mk a b l).small ∧ na = a.length ∧ nb = b.length ∧ nl = l.length, vb false, [], []⟩
  | _, _ => no⟩
theorem s_write_e : EnterOk Tryz.prog 98 := ⟨_, Tryz.func98, rfl, by decide⟩
@[go_sem] def s_write_lv : List (List Nat) := [[0, 1, 2, 3], [0, 1, 2, 3, 27], [8], [], [8]]
@[go_sem] noncomputable def s_write_K : Known := ((Known.nil).cons 128 ctIsSector s_isSector s_isSector_e).cons 125 ctIsLong s_isLong s_isLong_e
set_option maxHeartbeats 8000000 in
theorem s_write : Sound Tryz.prog 98 ctWrite := by
 have ke := s_write_K.env []
 have kl : Lives s_write_lv := trivial
 refine sound_intro (E := ⟨ti, s_write_K.Γ, []⟩) ke Tryz.func98 Tryz.ntmps98 rfl (rs := [.tmp 8]) rfl ?_
 intro args os hp
 unfold ctWrite at hp ⊢
 dsimp only at hp ⊢
 split at hp
 ·rename_i s k t na nb nl a b l
  refine ⟨by simp, fun φ0 w0 => ?_⟩
  have hp' : (Dk.mk a b l).small ∧ na = a.length ∧ nb = b.length ∧ nl = l.length := by
   by_cases h : (Dk.mk a b l).may s k t = true
   ·rw [if_pos h] at hp; exact hp
   ·rw [if_neg h] at hp; exact hp
  obtain ⟨⟨h1, h2, h3⟩, rfl, rfl, rfl⟩ := hp'
  simp only at h1 h2 h3
  have hm := may_eq ⟨a, b, l⟩ s k t
  simp only at hm
  clear hp
  refine goh trivial ?_
  refine W_cnd ?_ ?_ <;> (try simp only [cnd_r]) <;> intro hc
  ·have hm0 : (Dk.mk a b l).may s k t = false := by
    rw [hm]
    cases hs : sector a.length s k <;> cases ht : long t <;> simp [hs, ht] at hc ⊢
    omega
   refine goh trivial ?_
   exact finh [some 0, some 1, some 2, some 3] hm0
  ·have hm0 : (Dk.mk a b l).may s k t = true := by
    rw [hm]
    cases hs : sector a.length s k <;> cases ht : long t <;> simp [hs, ht] at hc ⊢
    omega
   refine goh trivial ?_
   exact finh [some 0, some 1, some 2, some 3, some 5] hm0
 ·simp [no] at hp
end Go.Proofs.YtfmjgoeclilcnaaGreatDoor
namespace Go.Proofs.YtfmjgoeclilcnaaGreatDoor
open Go.RowKit
def blkSide (d : Dk) (p : Ptr) (s : Int) : Bool := d.ok && realB p && d.has p s
@[go_sem] def ctBlkSide : Ct := ⟨false, [[some .str, some .str, some .late]], fun args os => match args, os with
  | [.agg [.isl .str a, .isl .str b, .isl .late l], .agg [.val (.int .i64 pa), .val (.int .i64 ps), .val (.int .i64 pb)], .one (.val (.int .i64 s))], [] => ifp (Dk.mk a b l).small (vb (blkSide ⟨a, b, l⟩ ⟨pa, ps, pb⟩ s))
  | _, _ => no⟩
theorem s_blkSide_e : EnterOk Tryz.prog 39 := ⟨_, Tryz.func39, rfl, by decide⟩
@[go_sem] def s_blkSide_lv : List (List Nat) := [[2, 3, 4], [6]]
@[go_sem] noncomputable def s_blkSide_K : Known := (((Known.nil).cons 56 ctDiskOk s_diskOk s_diskOk_e).cons 96 ctReal s_isReal s_isReal_e).cons 97 ctHas s_has s_has_e
set_option maxHeartbeats 8000000 in
theorem s_blkSide : Sound Tryz.prog 39 ctBlkSide := by
 have ke := s_blkSide_K.env []
 have kl : Lives s_blkSide_lv := trivial
 refine sound_intro (E := ⟨ti, s_blkSide_K.Γ, []⟩) ke Tryz.func39 Tryz.ntmps39 rfl (rs := [.tmp 6]) rfl ?_
 intro args os hp
 unfold ctBlkSide at hp ⊢
 dsimp only at hp ⊢
 split at hp
 ·rename_i a b l pa ps pb s
  refine ⟨by simp, fun φ0 w0 => ?_⟩
  obtain ⟨h1, h2, h3⟩ : a.length ≤ 4000000 ∧ b.length ≤ 4000000 ∧ l.length ≤ 4000000 := hp
  have e : blkSide ⟨a, b, l⟩ ⟨pa, ps, pb⟩ s = ((Dk.mk a b l).ok && realB ⟨pa, ps, pb⟩ && (Dk.mk a b l).has ⟨pa, ps, pb⟩ s) := rfl
  repeat' first
   | with_reducible refine red ?_
   | refine W_seq ?_
   | (refine W_reg (s_blkSide_K.env []) s_blkSide_lv fun K' hK' => ?_
      simp only [go_sem, Dk.small, ↓reduceIte, ↓reduceDIte, reduceCtorEq, Nat.reduceAdd, Nat.reduceMul, Nat.reduceSub, Nat.reduceDiv, Nat.reduceMod, Nat.reduceLT, Nat.reduceLeDiff, Nat.reduceEqDiff, Nat.reduceBEq, Int.reduceToNat, Int.reduceLE, Int.reduceLT, Int.reduceEq, Int.reduceNe, Int.reduceNeg]
      (repeat' refine And.intro ?_ ?_) <;> try first | with_reducible refine hK' ?_ | exact shut6)
   | with_reducible refine blockG_o (by decide) ?_
  ·intro hg
   revert hg
   cases (Dk.mk a b l).ok <;> simp
  ·skip
   refine ⟨by (simp only [go_sem, ↓reduceIte, reduceCtorEq, Nat.reduceAdd, Nat.reduceLT, Nat.reduceLeDiff, Nat.reduceEqDiff]) <;> trivial, [], ?_⟩
   all_goals try simp only [go_sem, inj_r, ↓reduceIte, reduceCtorEq, Nat.reduceAdd, Nat.reduceLT, Nat.reduceLeDiff, Nat.reduceEqDiff, Int.reduceEq]
   all_goals (repeat' refine And.intro ?_ ?_) <;> try exact shut7
   rw [e]
   cases (Dk.mk a b l).ok <;> cases realB ⟨pa, ps, pb⟩ <;> simp
 ·simp [no, ifp] at hp
def blkRead (d : Dk) (p : Ptr) : ByteArray × Int :=
 if p.at_ = 0 ∧ p.sum = 0 ∧ p.birth = 0 then (⟨#[]⟩, 1) else if d.ok && realB p then (if d.has p 0 then (d.text 0 p.at_, 0) else if d.has p 1 then (d.text 1 p.at_, 0) else (⟨#[]⟩, 2)) else (⟨#[]⟩, 2)
@[go_sem] def ctBlkRead : Ct := ⟨false, [[some .str, some .str, some .late]], fun args os => match args, os with
  | [.agg [.isl .str a, .isl .str b, .isl .late l], .agg [.val (.int .i64 pa), .val (.int .i64 ps), .val (.int .i64 pb)]], [] => ifp (Dk.mk a b l).small (.tup [vs (blkRead ⟨a, b, l⟩ ⟨pa, ps, pb⟩).1, vi (blkRead ⟨a, b, l⟩ ⟨pa, ps, pb⟩).2])
  | _, _ => no⟩
@[go_sem] def sgBr (a b : List ByteArray) (l : List Late) (pa ps pb : Int) (s : Nat) : Sg := ⟨[(2, .one (.ptr 0 0)), (3, .one (.ptr 1 0)), (16, vi s)], [some (.cells [.isl .str a, .isl .str b, .isl .late l]), some (.cells [.val (.int .i64 pa), .val (.int .i64 ps), .val (.int .i64 pb)])], []⟩
theorem same_ptr0 (pa ps pb : Int) : same (Ptr.mk pa ps pb) (Ptr.mk 0 0 0) = decide (pa = 0 ∧ ps = 0 ∧ pb = 0) := by
 rw [Bool.eq_iff_iff, same_true, decide_eq_true_eq, Ptr.mk.injEq]
theorem s_blkRead_e : EnterOk Tryz.prog 57 := ⟨_, Tryz.func57, rfl, by decide⟩
@[go_sem] def s_blkRead_lv : List (List Nat) := [[2, 3], [2, 3, 9], [4, 5], [2, 3, 15], [2, 3, 16], [2, 3, 16, 17], [2, 3, 6, 16], [2, 3, 6, 16, 22], [4, 5], [2, 3, 16], [4, 5]]
@[go_sem] noncomputable def s_blkRead_K : Known := ((((Known.nil).cons 56 ctDiskOk s_diskOk s_diskOk_e).cons 96 ctReal s_isReal s_isReal_e).cons 97 ctHas s_has s_has_e).cons 129 ctTextOf s_textOf s_textOf_e
set_option maxHeartbeats 8000000 in
theorem s_blkRead : Sound Tryz.prog 57 ctBlkRead := by
 have ke := s_blkRead_K.env []
 have kl : Lives s_blkRead_lv := trivial
 refine sound_intro (E := ⟨ti, s_blkRead_K.Γ, []⟩) ke Tryz.func57 Tryz.ntmps57 rfl (rs := [.tmp 4, .tmp 5]) rfl ?_
 intro args os hp
 unfold ctBlkRead at hp ⊢
 dsimp only at hp ⊢
 split at hp
 ·rename_i a b l pa ps pb
  refine ⟨by simp, fun φ0 w0 => ?_⟩
  obtain ⟨h1, h2, h3⟩ : a.length ≤ 4000000 ∧ b.length ≤ 4000000 ∧ l.length ≤ 4000000 := hp
  have e : blkRead ⟨a, b, l⟩ ⟨pa, ps, pb⟩ = if pa = 0 ∧ ps = 0 ∧ pb = 0 then (⟨#[]⟩, 1) else if (Dk.mk a b l).ok && realB ⟨pa, ps, pb⟩ then (if (Dk.mk a b l).has ⟨pa, ps, pb⟩ 0 then ((Dk.mk a b l).text 0 pa, 0) else if (Dk.mk a b l).has ⟨pa, ps, pb⟩ 1 then ((Dk.mk a b l).text 1 pa, 0) else (⟨#[]⟩, 2)) else (⟨#[]⟩, 2) := rfl
  refine goh trivial ?_
  refine W_cond _ (by exact rfl) (by exact trivial) ?_ ?_ <;> intro hc <;> rw [same_ptr0] at hc
  ·have hc : pa = 0 ∧ ps = 0 ∧ pb = 0 := by simpa only [decide_eq_true_eq] using hc
   rw [if_pos hc] at e
   refine goh trivial ?_
   exact finh [] e
  ·have hc : ¬ (pa = 0 ∧ ps = 0 ∧ pb = 0) := by simpa only [decide_eq_false_iff_not] using hc
   rw [if_neg hc] at e
   refine goh trivial ?_
   refine W_cond _ (by exact rfl) (by exact trivial) ?_ ?_ <;> intro hc2
   ·obtain ⟨hok, hre⟩ : (Dk.mk a b l).ok = true ∧ realB ⟨pa, ps, pb⟩ = true := by
     simp only [Bool.if_false_right, Bool.and_eq_true, decide_eq_true_eq] at hc2; exact hc2
    rw [hok, hre] at e
    simp only [Bool.and_self, if_true] at e
    obtain ⟨-, -, hab, -⟩ := (Dk.ok_iff _).1 hok
    simp only at hab
    refine goh trivial ?_
    refine W_le (σ' := sgBr a b l pa ps pb 0) [some 0, some 1] (by
     simp only [go_sem, inj_r, ↓reduceIte, reduceCtorEq, Nat.reduceAdd, Nat.reduceLT, Nat.reduceLeDiff, Nat.reduceEqDiff, Int.reduceEq]
     all_goals (repeat' refine And.intro ?_ ?_) <;> try exact shut7
     ) ?_
    refine W_loop (fun n σ => ∃ s : Nat, s ≤ 2 ∧ n = 2 - s ∧ (0 < s → (Dk.mk a b l).has ⟨pa, ps, pb⟩ 0 = false) ∧ (1 < s → (Dk.mk a b l).has ⟨pa, ps, pb⟩ 1 = false) ∧ σ = sgBr a b l pa ps pb s) 2 ⟨0, by omega, by omega, fun h => absurd h (by omega), fun h => absurd h (by omega), rfl⟩ ?_
    rintro n σ ⟨s, hs, rfl, hh0, hh1, rfl⟩
    unfold sgBr
    refine goh trivial ?_
    refine W_cnd ?_ ?_ <;> (try simp only [cnd_r]) <;> intro hls
    ·have hs2 : s = 0 ∨ s = 1 := by omega
     rcases hs2 with hs2 | hs2
     all_goals
      refine goh hs2 ?_
      refine W_cond _ (by exact rfl) (by exact trivial) ?_ ?_ <;> intro hc3
      ·have hsec := hc3
       unfold Dk.has at hsec
       simp only [Bool.and_eq_true] at hsec
       have hse := hsec.1
       refine goh hs2 ?_
       refine ⟨by (simp only [go_sem, e, hc3, ↓reduceIte, reduceCtorEq, Nat.reduceAdd, Nat.reduceLT, Nat.reduceLeDiff, Nat.reduceEqDiff]) <;> trivial, [], ?_⟩
       all_goals try simp only [go_sem, e, hc3, inj_r, ↓reduceIte, reduceCtorEq, Nat.reduceAdd, Nat.reduceLT, Nat.reduceLeDiff, Nat.reduceEqDiff, Int.reduceEq]
       all_goals (repeat' refine And.intro ?_ ?_) <;> try exact shut7
       all_goals try simp only [hh0 (by omega), hc3, if_true, if_false, Bool.false_eq_true]
      ·refine goh hs2 ?_
       refine ⟨2 - (s + 1), [some 0, some 1], sgBr a b l pa ps pb (s + 1), by omega, ?_, s + 1, by omega, rfl, fun h => ?_, fun h => ?_, rfl⟩
       ·exact leh hs2
       ·first | exact hc3 | exact hh0 (by omega)
       ·first | (exfalso; omega) | exact hc3
    ·have : s = 2 := by omega
     subst this
     rw [hh0 (by omega), hh1 (by omega)] at e
     simp only [if_false, Bool.false_eq_true] at e
     refine goh trivial ?_
     exact finh [] e
   ·have hre : ((Dk.mk a b l).ok && realB ⟨pa, ps, pb⟩) = false := by
     simp only [Bool.if_false_right, Bool.decide_eq_true] at hc2; exact hc2
    rw [hre] at e
    simp only [if_false, Bool.false_eq_true] at e
    refine goh trivial ?_
    exact finh [] e
 ·simp [no, ifp] at hp
end Go.Proofs.YtfmjgoeclilcnaaGreatDoor
namespace Go.Proofs.YtfmjgoeclilcnaaGreatDoor
open Go.RowKit
def badSide (d : Dk) (p : Ptr) : Int := if d.has p 0 then 1 else 0
def blkHeal (d : Dk) (p : Ptr) : Dk × Int :=
 if d.ok then
  if (blkRead d p).2 ≠ 0 ∨ d.has p 0 = d.has p 1 then (d, (blkRead d p).2)
  else if d.may (badSide d p) p.at_ (blkRead d p).1 then (d.add (badSide d p) p.at_ (blkRead d p).1, (blkRead d p).2) else (d, 2)
 else (.nil, 2)
@[go_sem] def ctBlkHeal : Ct := ⟨false, [[some .str, some .str, some .late]], fun args os => match args, os with
  | [.agg [.isl .str a, .isl .str b, .isl .late l], .agg [.val (.int .i64 pa), .val (.int .i64 ps), .val (.int .i64 pb)]], [] => ⟨(Dk.mk a b l).small, .tup [(blkHeal ⟨a, b, l⟩ ⟨pa, ps, pb⟩).1.v 0, vi (blkHeal ⟨a, b, l⟩ ⟨pa, ps, pb⟩).2], [], (blkHeal ⟨a, b, l⟩ ⟨pa, ps, pb⟩).1.objs⟩
  | _, _ => no⟩
theorem s_blkHeal_e : EnterOk Tryz.prog 40 := ⟨_, Tryz.func40, rfl, by decide⟩
@[go_sem] def s_blkHeal_lv : List (List Nat) := [[2, 3, 4], [2, 3, 4, 12], [4, 5], [2, 3, 4, 6], [2, 3, 4, 6, 7, 8], [2, 3, 4, 6, 7, 8, 32], [4, 5], [2, 3, 4, 6, 7, 8, 9], [3, 4, 6, 7, 8, 9, 37], [3, 4, 6, 7, 8, 9], [4, 6, 8, 43], [4, 5], [4, 5]]
@[go_sem] noncomputable def s_blkHeal_K : Known := (((((Known.nil).cons 56 ctDiskOk s_diskOk s_diskOk_e).cons 95 ctOwn s_own s_own_e).cons 57 ctBlkRead s_blkRead s_blkRead_e).cons 97 ctHas s_has s_has_e).cons 98 ctWrite s_write s_write_e
set_option maxHeartbeats 8000000 in
theorem s_blkHeal : Sound Tryz.prog 40 ctBlkHeal := by
 have ke := s_blkHeal_K.env []
 have kl : Lives s_blkHeal_lv := trivial
 refine sound_intro (E := ⟨ti, s_blkHeal_K.Γ, []⟩) ke Tryz.func40 Tryz.ntmps40 rfl (rs := [.cell 4 38, .tmp 5]) rfl ?_
 intro args os hp
 unfold ctBlkHeal at hp ⊢
 dsimp only at hp ⊢
 split at hp
 ·rename_i a b l pa ps pb
  refine ⟨by simp, fun φ0 w0 => ?_⟩
  obtain ⟨h1, h2, h3⟩ : a.length ≤ 4000000 ∧ b.length ≤ 4000000 ∧ l.length ≤ 4000000 := hp
  refine goh trivial ?_
  refine W_cnd ?_ ?_ <;> (try simp only [cnd_r]) <;> intro hok
  ·have e1 : blkHeal ⟨a, b, l⟩ ⟨pa, ps, pb⟩ = (.nil, 2) := by unfold blkHeal; rw [if_neg (by rw [hok]; simp)]
   refine goh trivial ?_
   refine ⟨by (simp only [go_sem, e1, Dk.nil, ↓reduceIte, reduceCtorEq, Nat.reduceAdd, Nat.reduceLT, Nat.reduceLeDiff, Nat.reduceEqDiff]) <;> trivial, [none, none, none], ?_⟩
   all_goals try simp only [go_sem, e1, Dk.nil, inj_r, ↓reduceIte, reduceCtorEq, Nat.reduceAdd, Nat.reduceLT, Nat.reduceLeDiff, Nat.reduceEqDiff, Int.reduceEq]
   all_goals (repeat' refine And.intro ?_ ?_) <;> try exact shut7
  ·have e3 : a.length ≤ 120 ∧ b.length ≤ 120 ∧ l.length ≤ 600 := Dk.ok_small hok
   refine goh trivial ?_
   refine W_cnd ?_ ?_ <;> (try simp only [cnd_r]) <;> intro hc
   ·have e1 : blkHeal ⟨a, b, l⟩ ⟨pa, ps, pb⟩ = (⟨a, b, l⟩, (blkRead ⟨a, b, l⟩ ⟨pa, ps, pb⟩).2) := by unfold blkHeal; rw [if_pos hok, if_pos hc]
    refine goh trivial ?_
    exact finh [some 3, some 4, some 5] e1
   ·obtain ⟨c1, c2⟩ := hc
    have hcn : ¬ ((blkRead ⟨a, b, l⟩ ⟨pa, ps, pb⟩).2 ≠ 0 ∨ (Dk.mk a b l).has ⟨pa, ps, pb⟩ 0 = (Dk.mk a b l).has ⟨pa, ps, pb⟩ 1) := by
     rintro (h | h)
     ·exact h c1
     ·rw [h] at c2; simp at c2
    refine goh trivial ?_
    refine W_cond _ (by exact rfl) (by exact trivial) ?_ ?_ <;> intro hh
    ·have hb : badSide ⟨a, b, l⟩ ⟨pa, ps, pb⟩ = 1 := by unfold badSide; rw [hh]; rfl
     by_cases hm : (Dk.mk a b l).may 1 pa (blkRead ⟨a, b, l⟩ ⟨pa, ps, pb⟩).1 = true
     ·have e1 : blkHeal ⟨a, b, l⟩ ⟨pa, ps, pb⟩ = ((Dk.mk a b l).add 1 pa (blkRead ⟨a, b, l⟩ ⟨pa, ps, pb⟩).1, (blkRead ⟨a, b, l⟩ ⟨pa, ps, pb⟩).2) := by
       unfold blkHeal; rw [if_pos hok, if_neg hcn, hb, if_pos hm]
      refine goh hm ?_
      refine W_cnd ?_ ?_ <;> intro hlit <;> try (cases hlit; done)
      refine goh hm ?_
      refine ⟨by (simp only [go_sem, e1, Dk.add, ↓reduceIte, reduceCtorEq, Nat.reduceAdd, Nat.reduceLT, Nat.reduceLeDiff, Nat.reduceEqDiff]) <;> trivial, [some 8, some 9, some 10], ?_⟩
      all_goals try simp only [go_sem, e1, Dk.add, inj_r, ↓reduceIte, reduceCtorEq, Nat.reduceAdd, Nat.reduceLT, Nat.reduceLeDiff, Nat.reduceEqDiff, Int.reduceEq]
      all_goals (repeat' refine And.intro ?_ ?_) <;> try exact shut7
     ·have e1 : blkHeal ⟨a, b, l⟩ ⟨pa, ps, pb⟩ = (⟨a, b, l⟩, 2) := by
       unfold blkHeal; rw [if_pos hok, if_neg hcn, hb, if_neg hm]
      refine goh hm ?_
      refine W_cnd ?_ ?_ <;> intro hlit <;> try (cases hlit; done)
      refine goh hm ?_
      exact finh [some 3, some 4, some 5] e1
    ·have hb : badSide ⟨a, b, l⟩ ⟨pa, ps, pb⟩ = 0 := by unfold badSide; rw [hh]; rfl
     by_cases hm : (Dk.mk a b l).may 0 pa (blkRead ⟨a, b, l⟩ ⟨pa, ps, pb⟩).1 = true
     ·have e1 : blkHeal ⟨a, b, l⟩ ⟨pa, ps, pb⟩ = ((Dk.mk a b l).add 0 pa (blkRead ⟨a, b, l⟩ ⟨pa, ps, pb⟩).1, (blkRead ⟨a, b, l⟩ ⟨pa, ps, pb⟩).2) := by
       unfold blkHeal; rw [if_pos hok, if_neg hcn, hb, if_pos hm]
      refine goh hm ?_
      refine W_cnd ?_ ?_ <;> intro hlit <;> try (cases hlit; done)
      refine goh hm ?_
      refine ⟨by (simp only [go_sem, e1, Dk.add, ↓reduceIte, reduceCtorEq, Nat.reduceAdd, Nat.reduceLT, Nat.reduceLeDiff, Nat.reduceEqDiff]) <;> trivial, [some 8, some 9, some 10], ?_⟩
      all_goals try simp only [go_sem, e1, Dk.add, inj_r, ↓reduceIte, reduceCtorEq, Nat.reduceAdd, Nat.reduceLT, Nat.reduceLeDiff, Nat.reduceEqDiff, Int.reduceEq]
      all_goals (repeat' refine And.intro ?_ ?_) <;> try exact shut7
     ·have e1 : blkHeal ⟨a, b, l⟩ ⟨pa, ps, pb⟩ = (⟨a, b, l⟩, 2) := by
       unfold blkHeal; rw [if_pos hok, if_neg hcn, hb, if_neg hm]
      refine goh hm ?_
      refine W_cnd ?_ ?_ <;> intro hlit <;> try (cases hlit; done)
      refine goh hm ?_
      exact finh [some 3, some 4, some 5] e1
 ·simp [no] at hp
end Go.Proofs.YtfmjgoeclilcnaaGreatDoor
namespace Go.Proofs.YtfmjgoeclilcnaaGreatDoor
open Go.RowKit
structure Dk.mid (d : Dk) : Prop where
 a : d.a.length ≤ 1100000
 b : d.b.length ≤ 1100000
 l : d.l.length ≤ 1100000
end Go.Proofs.YtfmjgoeclilcnaaGreatDoor
