import Derived.Test.YtjedcphhajlnoaaGreatDoorM9
import Derived.Test.YtjedcphhajlnoaaGreatDoorM11
set_option linter.unusedSimpArgs false
set_option linter.unusedVariables false
set_option linter.unusedSectionVars false
/- Functions: valid books, the program's. -/
namespace Go.Proofs.YtjedcphhajlnoaaGreatDoor
open Go.RowKit

@[go_sem] def ctLong24 : Ct := ⟨false, [], fun args os => match args, os with
  | [.one (.val (.string t))], [] => is (vb (long24 t))
  | _, _ => no⟩
theorem s_long24_e : EnterOk Tryz.prog 261 := ⟨_, Tryz.func261, rfl, by decide⟩
@[go_sem] def s_long24_lv : List (List Nat) := [[0], [2]]
@[go_sem] noncomputable def s_long24_K : Known := Known.nil
set_option maxHeartbeats 8000000 in
theorem s_long24 : Sound Tryz.prog 261 ctLong24 := by
  have ke := s_long24_K.env []
  have kl : Lives s_long24_lv := trivial
  refine sound_intro (E := ⟨ti, s_long24_K.Γ, []⟩) ke Tryz.func261 Tryz.ntmps261 rfl (rs := [.tmp 2]) rfl ?_
  intro args os hp
  unfold ctLong24 at hp ⊢
  dsimp only at hp ⊢
  split at hp
  · rename_i t
    refine ⟨by simp, fun φ0 w0 => ?_⟩
    refine goh trivial ?_
    refine ⟨by (simp only [go_sem, long24, ↓reduceIte, reduceCtorEq, Nat.reduceAdd, Nat.reduceLT, Nat.reduceLeDiff, Nat.reduceEqDiff]) <;> trivial, [], ?_⟩
    all_goals try simp only [go_sem, long24, inj_r, ↓reduceIte, reduceCtorEq, Nat.reduceAdd, Nat.reduceLT, Nat.reduceLeDiff, Nat.reduceEqDiff, Int.reduceEq]
    all_goals (repeat' refine And.intro ?_ ?_) <;> try exact shut7
  · simp [no, is] at hp
@[go_sem] def ctIndex24 : Ct := ⟨false, [[some .str]], fun args os => match args, os with
  | [.one (.isl .str xs), .one (.fn 261 [])], [] => ifp (xs.length ≤ 4000000) (vi (firstAt long24 xs))
  | _, _ => no⟩
@[go_sem] def sgIndex24 (xs : List ByteArray) (i : Nat) : Sg := ⟨[(8, vi i), (7, vi xs.length), (0, .one (.isl .str xs)), (1, .one (.fn 261 []))], [], []⟩
theorem s_index24_e : EnterOk Tryz.prog 229 := ⟨_, Tryz.func229, rfl, by decide⟩
@[go_sem] def s_index24_lv : List (List Nat) := [[0, 1], [0, 1, 7, 8], [0, 1, 7, 8, 9], [0, 1, 5, 7, 8], [0, 1, 5, 7, 8, 16], [4], [0, 1, 7, 8], [4]]
@[go_sem] noncomputable def s_index24_K : Known := (Known.nil).cons 261 ctLong24 s_long24 s_long24_e
set_option maxHeartbeats 8000000 in
theorem s_index24 : Sound Tryz.prog 229 ctIndex24 := by
  have ke := s_index24_K.env []
  have kl : Lives s_index24_lv := trivial
  refine sound_intro (E := ⟨ti, s_index24_K.Γ, []⟩) ke Tryz.func229 Tryz.ntmps229 rfl (rs := [.tmp 4]) rfl ?_
  intro args os hp
  unfold ctIndex24 at hp ⊢
  dsimp only at hp ⊢
  split at hp
  · rename_i xs
    refine ⟨by simp, fun φ0 w0 => ?_⟩
    have hlen : xs.length ≤ 4000000 := hp
    clear hp
    refine goh trivial ?_
    refine W_le (σ' := sgIndex24 xs 0) [] (by
      simp only [go_sem, inj_r, ↓reduceIte, reduceCtorEq, Nat.reduceAdd, Nat.reduceLT, Nat.reduceLeDiff, Nat.reduceEqDiff, Int.reduceEq]
      all_goals (repeat' refine And.intro ?_ ?_) <;> try exact shut7
      ) ?_
    refine W_loop (fun n σ => ∃ i : Nat, i ≤ xs.length ∧ n = xs.length - i ∧ (∀ j, j < i → long24 (xs.getD j ET.str.dflt) = false) ∧ σ = sgIndex24 xs i) xs.length ⟨0, by omega, by omega, by omega, rfl⟩ ?_
    rintro n σ ⟨i, hi, rfl, hbef, rfl⟩
    unfold sgIndex24
    refine goh trivial ?_
    refine W_cnd ?_ ?_ <;> (try simp only [cnd_r]) <;> intro hlt
    · refine goh trivial ?_
      refine W_cnd ?_ ?_ <;> (try simp only [cnd_r]) <;> intro hl
      · refine goh trivial ?_
        refine ⟨by (simp only [go_sem, ↓reduceIte, reduceCtorEq, Nat.reduceAdd, Nat.reduceLT, Nat.reduceLeDiff, Nat.reduceEqDiff]) <;> trivial, [], ?_⟩
        all_goals try simp only [go_sem, inj_r, ↓reduceIte, reduceCtorEq, Nat.reduceAdd, Nat.reduceLT, Nat.reduceLeDiff, Nat.reduceEqDiff, Int.reduceEq]
        all_goals (repeat' refine And.intro ?_ ?_) <;> try exact shut7
        exact (firstAt_some (by omega) hbef hl).symm
      · refine goh trivial ?_
        refine ⟨xs.length - (i + 1), [], sgIndex24 xs (i + 1), by omega, ?_, i + 1, by omega, rfl, fun j hj => ?_, rfl⟩
        · exact leh trivial
        · rcases Nat.lt_succ_iff_lt_or_eq.1 hj with h | rfl
          · exact hbef j h
          · exact hl
    · refine goh trivial ?_
      refine ⟨by (simp only [go_sem, ↓reduceIte, reduceCtorEq, Nat.reduceAdd, Nat.reduceLT, Nat.reduceLeDiff, Nat.reduceEqDiff]) <;> trivial, [], ?_⟩
      all_goals try simp only [go_sem, inj_r, ↓reduceIte, reduceCtorEq, Nat.reduceAdd, Nat.reduceLT, Nat.reduceLeDiff, Nat.reduceEqDiff, Int.reduceEq]
      all_goals (repeat' refine And.intro ?_ ?_) <;> try exact shut7
      exact (firstAt_none fun j hj => hbef j (by omega)).symm
  · simp [no, ifp] at hp
@[go_sem] def ctHas24 : Ct := ⟨false, [[some .str]], fun args os => match args, os with
  | [.one (.isl .str xs), .one (.fn 261 [])], [] => ifp (xs.length ≤ 4000000) (vb (xs.any long24))
  | _, _ => no⟩
theorem s_has24_e : EnterOk Tryz.prog 162 := ⟨_, Tryz.func162, rfl, by decide⟩
@[go_sem] def s_has24_lv : List (List Nat) := [[0, 1], [4]]
@[go_sem] noncomputable def s_has24_K : Known := (Known.nil).cons 229 ctIndex24 s_index24 s_index24_e
set_option maxHeartbeats 8000000 in
theorem s_has24 : Sound Tryz.prog 162 ctHas24 := by
  have ke := s_has24_K.env []
  have kl : Lives s_has24_lv := trivial
  refine sound_intro (E := ⟨ti, s_has24_K.Γ, []⟩) ke Tryz.func162 Tryz.ntmps162 rfl (rs := [.tmp 4]) rfl ?_
  intro args os hp
  unfold ctHas24 at hp ⊢
  dsimp only at hp ⊢
  split at hp
  · rename_i xs
    refine ⟨by simp, fun φ0 w0 => ?_⟩
    have hlen : xs.length ≤ 4000000 := hp
    clear hp
    refine goh trivial ?_
    refine ⟨by (simp only [go_sem, ↓reduceIte, reduceCtorEq, Nat.reduceAdd, Nat.reduceLT, Nat.reduceLeDiff, Nat.reduceEqDiff]) <;> trivial, [], ?_⟩
    all_goals try simp only [go_sem, inj_r, ↓reduceIte, reduceCtorEq, Nat.reduceAdd, Nat.reduceLT, Nat.reduceLeDiff, Nat.reduceEqDiff, Int.reduceEq]
    all_goals (repeat' refine And.intro ?_ ?_) <;> try exact shut7
    exact firstAt_ge _ _
  · simp [no, ifp] at hp
@[go_sem] noncomputable def ctNamed : Ct := ⟨true, [], fun args os => match args, os with
  | [.agg cs, .one (.ptr 0 0)], [.cells ds] => (match bsetOf cs, bsetOf ds with | some x, some s => is (vb (same x.name s.from_)) | _, _ => no)
  | _, _ => no⟩
theorem s_named_e : EnterOk Tryz.prog 287 := ⟨_, Tryz.func287, rfl, by decide⟩
@[go_sem] def s_named_lv : List (List Nat) := [[1, 2], [3]]
@[go_sem] noncomputable def s_named_K : Known := Known.nil
set_option maxHeartbeats 8000000 in
theorem s_named : Sound Tryz.prog 287 ctNamed := by
  have ke := s_named_K.env []
  have kl : Lives s_named_lv := trivial
  refine sound_intro (E := ⟨ti, s_named_K.Γ, []⟩) ke Tryz.func287 Tryz.ntmps287 rfl (rs := [.tmp 3]) rfl ?_
  intro args os hp
  unfold ctNamed at hp ⊢
  dsimp only at hp ⊢
  split at hp
  · rename_i cs ds
    split at hp
    · rename_i x s hx hs
      obtain rfl := bsetOf_some hx
      obtain rfl := bsetOf_some hs
      clear hx hs hp
      refine ⟨by simp, fun φ0 w0 => ?_⟩
      refine goh trivial ?_
      exact finh [some 0] trivial
    · simp [no] at hp
  · simp [no] at hp
@[go_sem] noncomputable def ctIndexNamed : Ct := ⟨true, [[some .bset]], fun args os => match args, os with
  | [.one (.isl .bset xs), .one (.fn 287 [(0, 0)])], [.cells ds] => (match bsetOf ds with | some s => ifp (xs.length ≤ 4000000) (vi (atB xs s.from_)) | none => no)
  | _, _ => no⟩
@[go_sem] def sgIxN (xs : List BSet) (s : BSet) (i : Nat) : Sg := ⟨[(8, vi i), (7, vi xs.length), (0, .one (.isl .bset xs)), (1, .one (.fn 287 [(0, 0)]))], [some (.cells ((ET.bset.cells s).map .val))], []⟩
theorem s_indexNamed_e : EnterOk Tryz.prog 286 := ⟨_, Tryz.func286, rfl, by decide⟩
@[go_sem] def s_indexNamed_lv : List (List Nat) := [[0, 1], [0, 1, 7, 8], [0, 1, 7, 8, 9], [0, 1, 5, 7, 8], [0, 1, 5, 7, 8, 16], [4], [0, 1, 7, 8], [4]]
@[go_sem] noncomputable def s_indexNamed_K : Known := (Known.nil).cons 287 ctNamed s_named s_named_e
set_option maxHeartbeats 8000000 in
theorem s_indexNamed : Sound Tryz.prog 286 ctIndexNamed := by
  have ke := s_indexNamed_K.env []
  have kl : Lives s_indexNamed_lv := trivial
  refine sound_intro (E := ⟨ti, s_indexNamed_K.Γ, []⟩) ke Tryz.func286 Tryz.ntmps286 rfl (rs := [.tmp 4]) rfl ?_
  intro args os hp
  unfold ctIndexNamed at hp ⊢
  dsimp only at hp ⊢
  split at hp
  · rename_i xs ds
    split at hp
    · rename_i s hs
      obtain rfl := bsetOf_some hs
      have hlen : xs.length ≤ 4000000 := hp
      clear hs
      refine ⟨by simp, fun φ0 w0 => ?_⟩
      refine goh trivial ?_
      refine W_le (σ' := sgIxN xs s 0) [some 0] (by
        simp only [go_sem, inj_r, ↓reduceIte, reduceCtorEq, Nat.reduceAdd, Nat.reduceLT, Nat.reduceLeDiff, Nat.reduceEqDiff, Int.reduceEq]
        all_goals (repeat' refine And.intro ?_ ?_) <;> try exact shut7
        ) ?_
      refine W_loop (fun n σ => ∃ i : Nat, i ≤ xs.length ∧ n = xs.length - i ∧ (∀ j, j < i → same (xs.getD j ET.bset.dflt).name s.from_ = false) ∧ σ = sgIxN xs s i) xs.length ⟨0, by omega, by omega, by omega, rfl⟩ ?_
      rintro n σ ⟨i, hi, rfl, hbef, rfl⟩
      unfold sgIxN
      refine goh trivial ?_
      refine W_cnd ?_ ?_ <;> (try simp only [cnd_r]) <;> intro hlt
      · refine goh trivial ?_
        refine W_cond _ (by exact rfl) (by exact trivial) ?_ ?_ <;> intro hl
        · have e : atB xs s.from_ = i := firstAt_some (by omega) hbef hl
          refine goh trivial ?_
          exact finh [some 0] e
        · refine goh trivial ?_
          refine ⟨xs.length - (i + 1), [some 0], sgIxN xs s (i + 1), by omega, ?_, i + 1, by omega, rfl, fun j hj => ?_, rfl⟩
          · exact leh trivial
          · rcases Nat.lt_succ_iff_lt_or_eq.1 hj with h | rfl
            · first | exact hbef j h | exact same_false.1 (hbef j h)
            · first | exact hl | exact same_false.1 hl
      · have e : atB xs s.from_ = -1 := firstAt_none fun j hj => hbef j (by omega)
        refine goh trivial ?_
        exact finh [some 0] e
    · simp [no] at hp
  · simp [no] at hp
@[go_sem] noncomputable def ctLeads : Ct := ⟨false, [[some .bset], []], fun args os => match args, os with
  | [.agg [.isl .bset xs], .agg cs], [] => (match bsetOf cs with | some s => ifp (xs.length ≤ 4000000) (vb (leadsN xs xs.length s)) | none => no)
  | _, _ => no⟩
@[go_sem] def sgLeads (xs : List BSet) (s : BSet) (i : Nat) : Sg := ⟨[(2, .one (.ptr 0 0)), (3, .one (.ptr 1 0)), (8, vi xs.length), (9, vi i)], [some (.cells [.isl .bset xs]), some (.cells ((ET.bset.cells s).map .val))], []⟩
theorem atB_lt (xs : List BSet) (name : ByteArray) : atB xs name < xs.length := by
  unfold atB firstAt
  split
  · rename_i i h
    rw [List.findIdx?_eq_some_iff_getElem] at h
    obtain ⟨hi, -⟩ := h
    omega
  · omega
theorem s_leads_e : EnterOk Tryz.prog 264 := ⟨_, Tryz.func264, rfl, by decide⟩
@[go_sem] def s_leads_lv : List (List Nat) := [[2, 3], [2, 3, 8, 9], [2, 3, 8, 9, 10], [2, 3, 8, 9, 13], [4], [2, 3, 5, 8, 9], [2, 3, 5, 8, 9, 33], [4], [2, 3, 8, 9], [2, 3, 8, 9], [4]]
@[go_sem] noncomputable def s_leads_K : Known := ((Known.nil).cons 286 ctIndexNamed s_indexNamed s_indexNamed_e).cons 287 ctNamed s_named s_named_e
set_option maxHeartbeats 8000000 in
theorem s_leads : Sound Tryz.prog 264 ctLeads := by
  have ke := s_leads_K.env []
  have kl : Lives s_leads_lv := trivial
  refine sound_intro (E := ⟨ti, s_leads_K.Γ, []⟩) ke Tryz.func264 Tryz.ntmps264 rfl (rs := [.tmp 4]) rfl ?_
  intro args os hp
  unfold ctLeads at hp ⊢
  dsimp only at hp ⊢
  split at hp
  · rename_i xs cs
    split at hp
    · rename_i s0 hs0
      obtain rfl := bsetOf_some hs0
      have hlen : xs.length ≤ 4000000 := hp
      clear hs0
      refine ⟨by simp, fun φ0 w0 => ?_⟩
      obtain ⟨R, hR⟩ : ∃ R, leadsN xs xs.length s0 = R := ⟨_, rfl⟩
      refine goh trivial ?_
      refine W_le (σ' := sgLeads xs s0 0) [some 0, some 1] (by
        simp only [go_sem, inj_r, ↓reduceIte, reduceCtorEq, Nat.reduceAdd, Nat.reduceLT, Nat.reduceLeDiff, Nat.reduceEqDiff, Int.reduceEq]
        all_goals (repeat' refine And.intro ?_ ?_) <;> try exact shut7
        ) ?_
      refine W_loop (fun q σ => ∃ (i : Nat) (s : BSet), i ≤ xs.length ∧ q = xs.length - i ∧ leadsN xs (xs.length - i) s = R ∧ σ = sgLeads xs s i) xs.length ⟨0, s0, by omega, by omega, hR, rfl⟩ ?_
      rintro q σ ⟨i, s, hi, rfl, hs, rfl⟩
      unfold sgLeads
      refine goh trivial ?_
      refine W_cnd ?_ ?_ <;> (try simp only [cnd_r]) <;> intro hlt
      · obtain ⟨m, hm⟩ : ∃ m, xs.length - i = m + 1 := ⟨xs.length - i - 1, by omega⟩
        rw [hm] at hs
        unfold leadsN at hs
        refine goh trivial ?_
        refine W_cond _ (by exact rfl) (by exact trivial) ?_ ?_ <;> intro hf
        · rw [if_pos hf] at hs
          have e : leadsN xs xs.length s0 = (s.kind == 1) := by rw [hR, ← hs]
          refine goh trivial ?_
          exact finh [] e
        · rw [if_neg (by rw [hf]; decide)] at hs
          have hl := atB_lt xs s.from_
          repeat' first
            | with_reducible refine red ?_
            | refine W_seq ?_
            | (refine W_reg (s_leads_K.env []) s_leads_lv fun K' hK' => ?_
               simp only [go_sem, ↓reduceIte, ↓reduceDIte, reduceCtorEq, Nat.reduceAdd, Nat.reduceMul, Nat.reduceSub, Nat.reduceDiv, Nat.reduceMod, Nat.reduceLT, Nat.reduceLeDiff, Nat.reduceEqDiff, Nat.reduceBEq, Int.reduceToNat, Int.reduceLE, Int.reduceLT, Int.reduceEq, Int.reduceNe, Int.reduceNeg]
               (repeat' refine And.intro ?_ ?_) <;> try first | with_reducible refine hK' ?_ | exact shut6)
            | with_reducible refine blockG_o (by decide) ?_
          · intro hgd
            have hgd2 : ¬ atB xs s.from_ < 0 := by simpa using hgd
            omega
          refine W_cnd ?_ ?_ <;> (try simp only [cnd_r]) <;> intro hc
          · have e : leadsN xs xs.length s0 = false := by
              rw [hR, ← hs, if_pos]
              rcases hc with h | h
              · exact .inl h
              · exact .inr h
            refine goh trivial ?_
            exact finh [] e
          · obtain ⟨c1, c2⟩ := hc
            have c3 : ¬ (setOf xs s.from_).kind = s.kind := by
              intro h
              rw [beq_eq_false_iff_ne] at c2
              exact c2 h
            rw [if_neg (fun h => h.elim c1 c3)] at hs
            refine goh trivial ?_
            refine ⟨xs.length - (i + 1), [some 0, some 1], sgLeads xs (setOf xs s.from_) (i + 1), by omega, ?_, i + 1, setOf xs s.from_, by omega, rfl, ?_, rfl⟩
            · simp only [go_sem, setOf, inj_r, ↓reduceIte, reduceCtorEq, Nat.reduceAdd, Nat.reduceLT, Nat.reduceLeDiff, Nat.reduceEqDiff, Int.reduceEq]
              all_goals (repeat' refine And.intro ?_ ?_) <;> try exact shut7
            · rw [show xs.length - (i + 1) = m by omega]; exact hs
      · have h0 : xs.length - i = 0 := by omega
        rw [h0] at hs
        have e : leadsN xs xs.length s0 = false := by rw [hR, ← hs]; rfl
        refine goh trivial ?_
        exact finh [] e
    · simp [no] at hp
  · simp [no] at hp
@[go_sem] noncomputable def ctBadSet : Ct := ⟨true, [], fun args os => match args, os with
  | [.agg cs, .one (.ptr 0 0)], [.cells [.isl .bset xs]] => (match bsetOf cs with | some s => ifp (xs.length ≤ 4000000) (vb (!leadsN xs xs.length s)) | none => no)
  | _, _ => no⟩
theorem s_badSet_e : EnterOk Tryz.prog 263 := ⟨_, Tryz.func263, rfl, by decide⟩
@[go_sem] def s_badSet_lv : List (List Nat) := [[1, 2], [3]]
@[go_sem] noncomputable def s_badSet_K : Known := (Known.nil).cons 264 ctLeads s_leads s_leads_e
set_option maxHeartbeats 8000000 in
theorem s_badSet : Sound Tryz.prog 263 ctBadSet := by
  have ke := s_badSet_K.env []
  have kl : Lives s_badSet_lv := trivial
  refine sound_intro (E := ⟨ti, s_badSet_K.Γ, []⟩) ke Tryz.func263 Tryz.ntmps263 rfl (rs := [.tmp 3]) rfl ?_
  intro args os hp
  unfold ctBadSet at hp ⊢
  dsimp only at hp ⊢
  split at hp
  · rename_i cs xs
    split at hp
    · rename_i s hs
      obtain rfl := bsetOf_some hs
      have hlen : xs.length ≤ 4000000 := hp
      clear hs
      refine ⟨by simp, fun φ0 w0 => ?_⟩
      refine goh trivial ?_
      exact finh [some 0] trivial
    · simp [no] at hp
  · simp [no] at hp
@[go_sem] noncomputable def ctIndexBad : Ct := ⟨true, [[some .bset]], fun args os => match args, os with
  | [.one (.isl .bset ys), .one (.fn 263 [(0, 0)])], [.cells [.isl .bset xs]] => ifp (xs.length ≤ 4000000 ∧ ys.length ≤ 4000000) (vi (firstAt (fun s => !leadsN xs xs.length s) ys))
  | _, _ => no⟩
@[go_sem] def sgIxB (xs ys : List BSet) (i : Nat) : Sg := ⟨[(8, vi i), (7, vi ys.length), (0, .one (.isl .bset ys)), (1, .one (.fn 263 [(0, 0)]))], [some (.cells [.isl .bset xs])], []⟩
theorem s_indexBad_e : EnterOk Tryz.prog 286 := ⟨_, Tryz.func286, rfl, by decide⟩
@[go_sem] def s_indexBad_lv : List (List Nat) := [[0, 1], [0, 1, 7, 8], [0, 1, 7, 8, 9], [0, 1, 5, 7, 8], [0, 1, 5, 7, 8, 16], [4], [0, 1, 7, 8], [4]]
@[go_sem] noncomputable def s_indexBad_K : Known := (Known.nil).cons 263 ctBadSet s_badSet s_badSet_e
set_option maxHeartbeats 8000000 in
theorem s_indexBad : Sound Tryz.prog 286 ctIndexBad := by
  have ke := s_indexBad_K.env []
  have kl : Lives s_indexBad_lv := trivial
  refine sound_intro (E := ⟨ti, s_indexBad_K.Γ, []⟩) ke Tryz.func286 Tryz.ntmps286 rfl (rs := [.tmp 4]) rfl ?_
  intro args os hp
  unfold ctIndexBad at hp ⊢
  dsimp only at hp ⊢
  split at hp
  · rename_i ys xs
    refine ⟨by simp, fun φ0 w0 => ?_⟩
    obtain ⟨hx, hlen⟩ : xs.length ≤ 4000000 ∧ ys.length ≤ 4000000 := hp
    refine goh trivial ?_
    refine W_le (σ' := sgIxB xs ys 0) [some 0] (by
      simp only [go_sem, inj_r, ↓reduceIte, reduceCtorEq, Nat.reduceAdd, Nat.reduceLT, Nat.reduceLeDiff, Nat.reduceEqDiff, Int.reduceEq]
      all_goals (repeat' refine And.intro ?_ ?_) <;> try exact shut7
      ) ?_
    refine W_loop (fun n σ => ∃ i : Nat, i ≤ ys.length ∧ n = ys.length - i ∧ (∀ j, j < i → leadsN xs xs.length (ys.getD j ET.bset.dflt) = true) ∧ σ = sgIxB xs ys i) ys.length ⟨0, by omega, by omega, by omega, rfl⟩ ?_
    rintro n σ ⟨i, hi, rfl, hbef, rfl⟩
    unfold sgIxB
    refine goh trivial ?_
    refine W_cnd ?_ ?_ <;> (try simp only [cnd_r]) <;> intro hlt
    · refine goh trivial ?_
      refine W_cond _ (by exact rfl) (by exact trivial) ?_ ?_ <;> intro hl
      · have e : firstAt (fun s => !leadsN xs xs.length s) ys = i := firstAt_some (d := ET.bset.dflt) (by omega) (fun j hj => by show (!leadsN xs xs.length (ys.getD j ET.bset.dflt)) = false; rw [hbef j hj]; rfl) hl
        refine goh trivial ?_
        exact finh [some 0] e
      · have hl2 : leadsN xs xs.length (ys.getD i ET.bset.dflt) = true := by simpa using hl
        refine goh trivial ?_
        refine ⟨ys.length - (i + 1), [some 0], sgIxB xs ys (i + 1), by omega, ?_, i + 1, by omega, rfl, fun j hj => ?_, rfl⟩
        · exact leh trivial
        · rcases Nat.lt_succ_iff_lt_or_eq.1 hj with h | rfl
          · exact hbef j h
          · exact hl2
    · have e : firstAt (fun s => !leadsN xs xs.length s) ys = -1 := firstAt_none (d := ET.bset.dflt) fun j hj => by show (!leadsN xs xs.length (ys.getD j ET.bset.dflt)) = false; rw [hbef j (by omega)]; rfl
      refine goh trivial ?_
      exact finh [some 0] e
  · simp [no, ifp] at hp
@[go_sem] noncomputable def ctHasBad : Ct := ⟨true, [[some .bset]], fun args os => match args, os with
  | [.one (.isl .bset ys), .one (.fn 263 [(0, 0)])], [.cells [.isl .bset xs]] => ifp (xs.length ≤ 4000000 ∧ ys.length ≤ 4000000) (vb (ys.any (fun s => !leadsN xs xs.length s)))
  | _, _ => no⟩
theorem s_hasBad_e : EnterOk Tryz.prog 262 := ⟨_, Tryz.func262, rfl, by decide⟩
@[go_sem] def s_hasBad_lv : List (List Nat) := [[0, 1], [4]]
@[go_sem] noncomputable def s_hasBad_K : Known := (Known.nil).cons 286 ctIndexBad s_indexBad s_indexBad_e
set_option maxHeartbeats 8000000 in
theorem s_hasBad : Sound Tryz.prog 262 ctHasBad := by
  have ke := s_hasBad_K.env []
  have kl : Lives s_hasBad_lv := trivial
  refine sound_intro (E := ⟨ti, s_hasBad_K.Γ, []⟩) ke Tryz.func262 Tryz.ntmps262 rfl (rs := [.tmp 4]) rfl ?_
  intro args os hp
  unfold ctHasBad at hp ⊢
  dsimp only at hp ⊢
  split at hp
  · rename_i ys xs
    refine ⟨by simp, fun φ0 w0 => ?_⟩
    obtain ⟨hx, hlen⟩ : xs.length ≤ 4000000 ∧ ys.length ≤ 4000000 := hp
    refine goh trivial ?_
    refine ⟨by (simp only [go_sem, ↓reduceIte, reduceCtorEq, Nat.reduceAdd, Nat.reduceLT, Nat.reduceLeDiff, Nat.reduceEqDiff]) <;> trivial, [some 0], ?_⟩
    all_goals try simp only [go_sem, inj_r, ↓reduceIte, reduceCtorEq, Nat.reduceAdd, Nat.reduceLT, Nat.reduceLeDiff, Nat.reduceEqDiff, Int.reduceEq]
    all_goals (repeat' refine And.intro ?_ ?_) <;> try exact shut7
    exact firstAt_ge _ _
  · simp [no, ifp] at hp
@[go_sem] noncomputable def ctBookOk : Ct := ⟨false, [[some .bset]], fun args os => match args, os with
  | [.agg [.isl .bset xs]], [] => ifp (xs.length ≤ 4000000 ∧ ∀ i : Nat, (xs.getD i ET.bset.dflt).name.size ≤ 9223372036854775807) (vb (bookB xs))
  | _, _ => no⟩
@[go_sem] def sgBookOk (xs : List BSet) (i : Nat) : Sg := ⟨[(1, .one (.ptr 0 0)), (10, .one (.isl .bset xs)), (11, vi xs.length), (12, vi i)], [some (.cells [.isl .bset xs])], []⟩
theorem s_bookOk_e : EnterOk Tryz.prog 224 := ⟨_, Tryz.func224, rfl, by decide⟩
@[go_sem] def s_bookOk_lv : List (List Nat) := [[1], [1, 8], [2], [1, 10, 11, 12], [1, 10, 11, 12, 13], [1, 3, 4, 10, 11, 12], [1, 10, 11, 12, 51], [2], [1, 10, 11, 12], [2]]
@[go_sem] noncomputable def s_bookOk_K : Known := (((((Known.nil).cons 127 ctName s_bookName s_bookName_e).cons 162 ctHas24 s_has24 s_has24_e).cons 261 ctLong24 s_long24 s_long24_e).cons 262 ctHasBad s_hasBad s_hasBad_e).cons 263 ctBadSet s_badSet s_badSet_e
set_option maxHeartbeats 8000000 in
theorem s_bookOk : Sound Tryz.prog 224 ctBookOk := by
  have ke := s_bookOk_K.env []
  have kl : Lives s_bookOk_lv := trivial
  refine sound_intro (E := ⟨ti, s_bookOk_K.Γ, []⟩) ke Tryz.func224 Tryz.ntmps224 rfl (rs := [.tmp 2]) rfl ?_
  intro args os hp
  unfold ctBookOk at hp ⊢
  dsimp only at hp ⊢
  split at hp
  · rename_i xs
    refine ⟨by simp, fun φ0 w0 => ?_⟩
    obtain ⟨hlen, hsz⟩ : xs.length ≤ 4000000 ∧ ∀ i : Nat, (xs.getD i ET.bset.dflt).name.size ≤ 9223372036854775807 := hp
    refine goh trivial ?_
    refine W_cnd ?_ ?_ <;> (try simp only [cnd_r]) <;> intro hc
    · have e : bookB xs = false := bookB_false.2 fun h => by have := h.few; omega
      refine goh trivial ?_
      exact finh [] e
    · refine goh trivial ?_
      refine W_le (σ' := sgBookOk xs 0) [some 0] (by
        simp only [go_sem, inj_r, ↓reduceIte, reduceCtorEq, Nat.reduceAdd, Nat.reduceLT, Nat.reduceLeDiff, Nat.reduceEqDiff, Int.reduceEq]
        all_goals (repeat' refine And.intro ?_ ?_) <;> try exact shut7
        ) ?_
      refine W_loop (fun q σ => ∃ i : Nat, i ≤ xs.length ∧ q = xs.length - i ∧ (∀ j, j < i → SetOk xs j) ∧ σ = sgBookOk xs i) xs.length ⟨0, by omega, by omega, by omega, rfl⟩ ?_
      rintro q σ ⟨i, hi, rfl, hbef, rfl⟩
      unfold sgBookOk
      refine goh trivial ?_
      refine W_cnd ?_ ?_ <;> (try simp only [cnd_r]) <;> intro hlt
      · have hsz1 := hsz i
        have w1 : IntKind.i64.wrap ((i : Int) - 1) = (i : Int) - 1 := wrap_id _ (by omega) (by omega)
        have ht : ((i : Int) - 1).toNat = i - 1 := by omega
        refine goh (And.intro w1 ht) ?_
        refine W_cond _ (by exact rfl) (by exact trivial) ?_ ?_ <;> intro hb
        · have e : bookB xs = false := bookB_false.2 fun h => by
            obtain ⟨h1, h2, h3, h4⟩ := h.each i (by omega)
            unfold lessB at h2
            unfold big8 at h4
            simp only [List.any_cons, List.any_nil, Bool.or_false] at h4
            have hx := (bad_expr _ _ _ _ _ _).2 ⟨h1, fun hp : (i : Int) > 0 => h2 (by omega), (show ((xs.getD i ET.bset.dflt).kind != 1) = false ∨ ((xs.getD i ET.bset.dflt).kind != 2) = false from h3.elim (fun h => .inl (by rw [h]; rfl)) (fun h => .inr (by rw [h]; rfl))), h4⟩
            rw [hx] at hb
            cases hb
          refine goh trivial ?_
          exact finh [] e
        · obtain ⟨h1, h2, h3, h4⟩ := (bad_expr _ _ _ _ _ _).1 hb
          have h3' : (xs.getD i ET.bset.dflt).kind = 1 ∨ (xs.getD i ET.bset.dflt).kind = 2 := by
            rcases h3 with h | h
            · exact .inl (by simpa only [bne_eq_false_iff_eq] using h)
            · exact .inr (by simpa only [bne_eq_false_iff_eq] using h)
          have h4' : big8 (xs.getD i ET.bset.dflt) = false := by
            unfold big8
            simp only [List.any_cons, List.any_nil, Bool.or_false]
            exact h4
          have hs : SetOk xs i := ⟨h1, fun hp => h2 (by omega), h3', h4'⟩
          refine goh trivial ?_
          refine ⟨xs.length - (i + 1), [some 0], sgBookOk xs (i + 1), by omega, ?_, i + 1, by omega, rfl, fun j hj => ?_, rfl⟩
          · exact leh trivial
          · rcases Nat.lt_succ_iff_lt_or_eq.1 hj with h | rfl
            · exact hbef j h
            · exact hs
      · have e : bookB xs = !xs.any (fun s => !leadsN xs xs.length s) := by
          cases ha : xs.any (fun s => !leadsN xs xs.length s) with
          | false => exact bookB_true.2 ⟨by omega, fun i hi => hbef i (by omega), ha⟩
          | true => exact bookB_false.2 fun h => by rw [h.leads] at ha; cases ha
        refine goh trivial ?_
        exact finh [] e
  · simp [no, ifp] at hp
end Go.Proofs.YtjedcphhajlnoaaGreatDoor
/- Functions: valid books, the reference's. -/
namespace Go.Proofs.YtjedcphhajlnoaaGreatDoor
open Go.RowKit

@[go_sem] noncomputable def ctAt : Ct := ⟨false, [[some .bset]], fun args os => match args, os with
  | [.agg [.isl .bset xs], .one (.val (.string name))], [] => ifp (xs.length ≤ 4000000) (.tup [vi (lowN xs name), vb (thereB xs name)])
  | _, _ => no⟩
@[go_sem] def sgAt (xs : List BSet) (name : ByteArray) (k : Nat) : Sg := ⟨[(1, vs name), (2, .one (.ptr 0 0)), (6, vi k)], [some (.cells [.isl .bset xs])], []⟩
theorem s_l4At_e : EnterOk Tryz.prog 73 := ⟨_, Tryz.func73, rfl, by decide⟩
@[go_sem] def s_l4At_lv : List (List Nat) := [[1, 2], [1, 2, 6], [1, 2, 6, 21], [1, 2, 6], [4, 5]]
@[go_sem] noncomputable def s_l4At_K : Known := Known.nil
set_option maxHeartbeats 8000000 in
theorem s_l4At : Sound Tryz.prog 73 ctAt := by
  have ke := s_l4At_K.env []
  have kl : Lives s_l4At_lv := trivial
  refine sound_intro (E := ⟨ti, s_l4At_K.Γ, []⟩) ke Tryz.func73 Tryz.ntmps73 rfl (rs := [.tmp 4, .tmp 5]) rfl ?_
  intro args os hp
  unfold ctAt at hp ⊢
  dsimp only at hp ⊢
  split at hp
  · rename_i xs name
    refine ⟨by simp, fun φ0 w0 => ?_⟩
    have hlen : xs.length ≤ 4000000 := hp
    refine goh trivial ?_
    refine W_le (σ' := sgAt xs name 0) [some 0] (by
      simp only [go_sem, inj_r, ↓reduceIte, reduceCtorEq, Nat.reduceAdd, Nat.reduceLT, Nat.reduceLeDiff, Nat.reduceEqDiff, Int.reduceEq]
      all_goals (repeat' refine And.intro ?_ ?_) <;> try exact shut7
      ) ?_
    refine W_loop (fun q σ => ∃ k : Nat, k ≤ xs.length ∧ q = xs.length - k ∧ (∀ j, j < k → lessB (xs.getD j ET.bset.dflt).name name = true) ∧ σ = sgAt xs name k) xs.length ⟨0, by omega, by omega, by omega, rfl⟩ ?_
    rintro q σ ⟨k, hk, rfl, hbef, rfl⟩
    unfold sgAt
    refine goh trivial ?_
    refine W_cond _ (by exact rfl) (by exact trivial) ?_ ?_ <;> intro hc
    · have hc2 : k < xs.length ∧ lessB (xs.getD k ET.bset.dflt).name name = true := by
        unfold lessB
        simpa using hc
      refine goh trivial ?_
      refine ⟨xs.length - (k + 1), [some 0], sgAt xs name (k + 1), by omega, ?_, k + 1, by omega, rfl, fun j hj => ?_, rfl⟩
      · exact leh trivial
      · rcases Nat.lt_succ_iff_lt_or_eq.1 hj with h | rfl
        · exact hbef j h
        · exact hc2.2
    · have hs : k = xs.length ∨ lessB (xs.getD k ET.bset.dflt).name name = false := by
        by_cases h : k < xs.length
        · right
          unfold lessB
          have h2 : (k : Int) < xs.length := by omega
          simpa [h2] using hc
        · left; omega
      have e := lowN_eq hk hbef hs
      refine goh trivial ?_
      refine ⟨by (simp only [go_sem, e, ↓reduceIte, reduceCtorEq, Nat.reduceAdd, Nat.reduceLT, Nat.reduceLeDiff, Nat.reduceEqDiff]) <;> trivial, [], ?_⟩
      all_goals try simp only [go_sem, e, inj_r, ↓reduceIte, reduceCtorEq, Nat.reduceAdd, Nat.reduceLT, Nat.reduceLeDiff, Nat.reduceEqDiff, Int.reduceEq]
      all_goals (repeat' refine And.intro ?_ ?_) <;> try exact shut7
      unfold thereB
      rw [e]
      by_cases h : (k : Int) < xs.length
      · rw [if_pos h, decide_eq_true (show k < xs.length by omega), Bool.true_and]
      · rw [if_neg h, decide_eq_false (show ¬ k < xs.length by omega), Bool.false_and]
  · simp [no, ifp] at hp
@[go_sem] noncomputable def ctRoots : Ct := ⟨false, [[some .bset], []], fun args os => match args, os with
  | [.agg [.isl .bset xs], .agg cs], [] => (match bsetOf cs with | some s => ifp (xs.length ≤ 4000000 ∧ Sorted xs) (vb (leadsN xs (xs.length + 1) s)) | none => no)
  | _, _ => no⟩
@[go_sem] def sgRoots (xs : List BSet) (s : BSet) (i : Nat) : Sg := ⟨[(2, .one (.ptr 0 0)), (3, .one (.ptr 1 0)), (5, vi i)], [some (.cells [.isl .bset xs]), some (.cells ((ET.bset.cells s).map .val))], []⟩
theorem s_roots_e : EnterOk Tryz.prog 212 := ⟨_, Tryz.func212, rfl, by decide⟩
@[go_sem] def s_roots_lv : List (List Nat) := [[2, 3], [2, 3, 5], [2, 3, 5, 12], [2, 3, 5], [2, 3, 5, 17], [4], [2, 3, 5, 6, 7], [2, 3, 5, 6, 40], [4], [2, 3, 5], [4]]
@[go_sem] noncomputable def s_roots_K : Known := (Known.nil).cons 73 ctAt s_l4At s_l4At_e
set_option maxHeartbeats 8000000 in
theorem s_roots : Sound Tryz.prog 212 ctRoots := by
  have ke := s_roots_K.env []
  have kl : Lives s_roots_lv := trivial
  refine sound_intro (E := ⟨ti, s_roots_K.Γ, []⟩) ke Tryz.func212 Tryz.ntmps212 rfl (rs := [.tmp 4]) rfl ?_
  intro args os hp
  unfold ctRoots at hp ⊢
  dsimp only at hp ⊢
  split at hp
  · rename_i xs cs
    split at hp
    · rename_i s0 hs0
      obtain rfl := bsetOf_some hs0
      obtain ⟨hlen, hso⟩ : xs.length ≤ 4000000 ∧ Sorted xs := hp
      clear hs0
      refine ⟨by simp, fun φ0 w0 => ?_⟩
      obtain ⟨R, hR⟩ : ∃ R, leadsN xs (xs.length + 1) s0 = R := ⟨_, rfl⟩
      refine goh trivial ?_
      refine W_le (σ' := sgRoots xs s0 0) [some 0, some 1] (by
        simp only [go_sem, inj_r, ↓reduceIte, reduceCtorEq, Nat.reduceAdd, Nat.reduceLT, Nat.reduceLeDiff, Nat.reduceEqDiff, Int.reduceEq]
        all_goals (repeat' refine And.intro ?_ ?_) <;> try exact shut7
        ) ?_
      refine W_loop (fun q σ => ∃ (i : Nat) (s : BSet), i ≤ xs.length + 1 ∧ q = xs.length + 1 - i ∧ leadsN xs (xs.length + 1 - i) s = R ∧ σ = sgRoots xs s i) (xs.length + 1) ⟨0, s0, by omega, by omega, hR, rfl⟩ ?_
      rintro q σ ⟨i, s, hi, rfl, hs, rfl⟩
      unfold sgRoots
      refine goh trivial ?_
      refine W_cnd ?_ ?_ <;> (try simp only [cnd_r]) <;> intro hlt
      · obtain ⟨m, hm⟩ : ∃ m, xs.length + 1 - i = m + 1 := ⟨xs.length - i, by omega⟩
        rw [hm] at hs
        unfold leadsN at hs
        refine goh trivial ?_
        refine W_cond _ (by exact rfl) (by exact trivial) ?_ ?_ <;> intro hf
        · rw [if_pos hf] at hs
          have e : leadsN xs (xs.length + 1) s0 = (s.kind == 1) := by rw [hR, ← hs]
          refine goh trivial ?_
          exact finh [] e
        · rw [if_neg (by rw [hf]; decide)] at hs
          obtain ⟨a1, a2⟩ := at_low hso s.from_
          cases ht : thereB xs s.from_ with
          | false =>
            have e : leadsN xs (xs.length + 1) s0 = false := by rw [hR, ← hs, if_pos (.inl (a2 ht))]
            repeat' first
              | with_reducible refine red ?_
              | refine W_seq ?_
              | (refine W_reg (s_roots_K.env []) s_roots_lv fun K' hK' => ?_
                 simp only [go_sem, ht, Bool.not_false, Bool.not_true, Bool.false_eq_true, ↓reduceIte, ↓reduceDIte, reduceCtorEq, Nat.reduceAdd, Nat.reduceMul, Nat.reduceSub, Nat.reduceDiv, Nat.reduceMod, Nat.reduceLT, Nat.reduceLeDiff, Nat.reduceEqDiff, Nat.reduceBEq, Int.reduceToNat, Int.reduceLE, Int.reduceLT, Int.reduceEq, Int.reduceNe, Int.reduceNeg]
                 (repeat' refine And.intro ?_ ?_) <;> try first | with_reducible refine hK' ?_ | exact shut6)
              | with_reducible refine blockG_o (by decide) ?_
            all_goals try (intro hgd; cases hgd; done)
            refine W_cnd ?_ ?_ <;> intro hlit <;> try (cases hlit; done)
            refine goh trivial ?_
            exact finh [] e
          | true =>
            have hat := a1 ht
            have hlow : lowN xs s.from_ < xs.length := by
              unfold thereB at ht
              rw [Bool.and_eq_true, decide_eq_true_eq] at ht
              exact ht.1
            have hset : setOf xs s.from_ = xs.getD (lowN xs s.from_) ET.bset.dflt := by unfold setOf; rw [hat]; rfl
            rw [hat, hset] at hs
            refine goh ht ?_
            refine W_cnd ?_ ?_ <;> (try simp only [cnd_r]) <;> intro hc
            · have e : leadsN xs (xs.length + 1) s0 = false := by rw [hR, ← hs, if_pos (.inr hc)]
              refine goh trivial ?_
              exact finh [] e
            · have hc2 : ¬ (xs.getD (lowN xs s.from_) ET.bset.dflt).kind = s.kind := by
                first | exact hc | (rw [beq_eq_false_iff_ne] at hc; exact hc)
              rw [if_neg (fun h => h.elim (by omega) hc2)] at hs
              refine goh trivial ?_
              refine ⟨xs.length + 1 - (i + 1), [some 0, some 1], sgRoots xs (xs.getD (lowN xs s.from_) ET.bset.dflt) (i + 1), by omega, ?_, i + 1, _, by omega, rfl, ?_, rfl⟩
              · exact leh trivial
              · rw [show xs.length + 1 - (i + 1) = m by omega]; exact hs
      · have h0 : xs.length + 1 - i = 0 := by omega
        rw [h0] at hs
        have e : leadsN xs (xs.length + 1) s0 = false := by rw [hR, ← hs]; rfl
        refine goh trivial ?_
        exact finh [] e
    · simp [no] at hp
  · simp [no] at hp
end Go.Proofs.YtjedcphhajlnoaaGreatDoor
/- Functions: valid books, the reference's, on. -/
namespace Go.Proofs.YtjedcphhajlnoaaGreatDoor
open Go.RowKit

def blk8 (x : BSet) : List ByteArray := [x.blocks.x0, x.blocks.x1, x.blocks.x2, x.blocks.x3, x.blocks.x4, x.blocks.x5, x.blocks.x6, x.blocks.x7]
@[go_sem] def sgSb (xs : List BSet) (i : Nat) : Sg := ⟨[(1, .one (.ptr 0 0)), (3, vi i)], [some (.cells [.isl .bset xs])], []⟩
@[go_sem] def sgSj (xs : List BSet) (s : BSet) (i j : Nat) : Sg := ⟨[(1, .one (.ptr 0 0)), (3, vi i), (4, .one (.ptr 1 0)), (5, vi j)], [some (.cells [.isl .bset xs]), some (.cells ((ET.bset.cells s).map .val))], []⟩
@[go_sem] def sgSr2 (xs : List BSet) (i : Nat) : Sg := ⟨[(1, .one (.ptr 0 0)), (6, vi i)], [some (.cells [.isl .bset xs])], []⟩
theorem bad2 (A B G1 G2 : Bool) (P : Prop) [Decidable P] : (if (if (if (!A) = true then true else if P then B else false) = true then true else G1) = true then true else G2) = false ↔ A = true ∧ (P → B = false) ∧ G1 = false ∧ G2 = false := by
  by_cases h : P <;> cases A <;> cases B <;> cases G1 <;> cases G2 <;> simp [h]
theorem less_or (s p : ByteArray) : (Op.bytesLess s.toList p.toList || same s p) = false ↔ lessB p s = true := by
  rw [Bool.or_eq_false_iff, same_false]
  constructor
  · rintro ⟨h1, h2⟩
    rcases less_total s p with h | h | h
    · unfold lessB at h; rw [h] at h1; cases h1
    · exact absurd h h2
    · exact h
  · intro h
    refine ⟨?_, fun he => ?_⟩
    · rw [← Bool.not_eq_true]
      intro h2
      have := less_trans h h2
      rw [less_irrefl] at this; cases this
    · rw [he, less_irrefl] at h; cases h
theorem sorted_of {xs : List BSet} (h : ∀ j, j < xs.length → SetOk xs j) : Sorted xs := ⟨fun i h0 hi => (h i hi).less h0⟩
theorem s_specBookOk_e : EnterOk Tryz.prog 151 := ⟨_, Tryz.func151, rfl, by decide⟩
@[go_sem] def s_specBookOk_lv : List (List Nat) := [[1], [1, 10], [2], [1, 3], [1, 3, 15], [1, 3], [1, 3, 4], [1, 3, 4, 52], [2], [1, 3, 4, 5], [1, 3, 4, 5, 54], [1, 3, 4, 5], [1, 3, 4, 5, 62], [2], [1, 6], [1, 6, 67], [1, 6], [1, 6, 77], [2], [2]]
@[go_sem] noncomputable def s_specBookOk_K : Known := ((Known.nil).cons 132 ctName s_specName s_specName_e).cons 212 ctRoots s_roots s_roots_e
set_option maxHeartbeats 8000000 in
theorem s_specBookOk : Sound Tryz.prog 151 ctBookOk := by
  have ke := s_specBookOk_K.env []
  have kl : Lives s_specBookOk_lv := trivial
  refine sound_intro (E := ⟨ti, s_specBookOk_K.Γ, []⟩) ke Tryz.func151 Tryz.ntmps151 rfl (rs := [.tmp 2]) rfl ?_
  intro args os hp
  unfold ctBookOk at hp ⊢
  dsimp only at hp ⊢
  split at hp
  · rename_i xs
    refine ⟨by simp, fun φ0 w0 => ?_⟩
    obtain ⟨hlen, hsz⟩ : xs.length ≤ 4000000 ∧ ∀ i : Nat, (xs.getD i ET.bset.dflt).name.size ≤ 9223372036854775807 := hp
    refine goh trivial ?_
    refine W_cnd ?_ ?_ <;> (try simp only [cnd_r]) <;> intro hc
    · have e : bookB xs = false := bookB_false.2 fun h => by have := h.few; omega
      refine goh trivial ?_
      exact finh [] e
    · refine goh trivial ?_
      refine W_le (σ' := sgSb xs 0) [some 0] (by
        simp only [go_sem, inj_r, ↓reduceIte, reduceCtorEq, Nat.reduceAdd, Nat.reduceLT, Nat.reduceLeDiff, Nat.reduceEqDiff, Int.reduceEq]
        all_goals (repeat' refine And.intro ?_ ?_) <;> try exact shut7
        ) ?_
      refine W_loop (fun q σ => ∃ i : Nat, i ≤ xs.length ∧ q = xs.length - i ∧ (∀ j, j < i → SetOk xs j) ∧ σ = sgSb xs i) xs.length ⟨0, by omega, by omega, by omega, rfl⟩ ?_
      rintro q σ ⟨i, hi, rfl, hbef, rfl⟩
      unfold sgSb
      refine goh trivial ?_
      refine W_cnd ?_ ?_ <;> (try simp only [cnd_r]) <;> intro hlt
      · have hsz1 := hsz i
        have w1 : IntKind.i64.wrap ((i : Int) - 1) = (i : Int) - 1 := wrap_id _ (by omega) (by omega)
        have ht : ((i : Int) - 1).toNat = i - 1 := by omega
        refine goh (And.intro w1 ht) ?_
        refine W_cond _ (by exact rfl) (by exact trivial) ?_ ?_ <;> intro hb
        · have e : bookB xs = false := bookB_false.2 fun h => by
            obtain ⟨h1, h2, h3, -⟩ := h.each i (by omega)
            have hx := (bad2 _ _ _ _ _).2 ⟨h1, fun hp : (i : Int) > 0 => (less_or _ _).2 (h2 (by omega)), (show decide ((xs.getD i ET.bset.dflt).kind < 1) = false by rw [decide_eq_false_iff_not]; omega), (show decide ((xs.getD i ET.bset.dflt).kind > 2) = false by rw [decide_eq_false_iff_not]; omega)⟩
            rw [hx] at hb
            cases hb
          refine goh trivial ?_
          exact finh [] e
        · obtain ⟨h1, h2, h3, h4⟩ := (bad2 _ _ _ _ _).1 hb
          rw [decide_eq_false_iff_not] at h3 h4
          obtain ⟨s, hs⟩ : ∃ s, xs.getD i ET.bset.dflt = s := ⟨_, rfl⟩
          refine goh trivial ?_
          refine W_le (σ' := sgSj xs (xs.getD i ET.bset.dflt) i 0) [some 0, some 1] (by
            simp only [go_sem, inj_r, ↓reduceIte, reduceCtorEq, Nat.reduceAdd, Nat.reduceLT, Nat.reduceLeDiff, Nat.reduceEqDiff, Int.reduceEq]
            all_goals (repeat' refine And.intro ?_ ?_) <;> try exact shut7
            ) ?_
          rw [hs] at h1 h2 h3 h4 ⊢
          refine W_loop (fun q σ => ∃ j : Nat, j ≤ 8 ∧ q = 8 - j ∧ ((blk8 s).take j).any long24 = false ∧ σ = sgSj xs s i j) 8 ⟨0, by omega, by omega, rfl, rfl⟩ ?_
          rintro q σ ⟨j, hj, rfl, hbl, rfl⟩
          unfold sgSj
          rcases (show j < 8 ∨ j = 8 by omega) with hj8 | hc8
          · rcases (show j = 0 ∨ j = 1 ∨ j = 2 ∨ j = 3 ∨ j = 4 ∨ j = 5 ∨ j = 6 ∨ j = 7 by omega) with hc8 | hc8 | hc8 | hc8 | hc8 | hc8 | hc8 | hc8
            all_goals
              refine goh hc8 ?_
              refine W_cnd ?_ ?_ <;> intro hlit <;> try (cases hlit; done)
              refine goh hc8 ?_
              refine W_cnd ?_ ?_ <;> (try simp only [cnd_r]) <;> intro hl
              · have hbig : big8 s = true := by
                  unfold big8
                  simp only [List.any_cons, List.any_nil, Bool.or_false, Bool.or_eq_true, long24, decide_eq_true_eq]
                  omega
                have e : bookB xs = false := bookB_false.2 fun h => by
                  have h5 := (h.each i (by omega)).small
                  rw [hs, hbig] at h5; cases h5
                refine goh trivial ?_
                exact finh [] e
              · refine goh hc8 ?_
                refine ⟨8 - (j + 1), [some 0, some 1], sgSj xs s i (j + 1), by omega, ?_, j + 1, by omega, rfl, ?_, rfl⟩
                · exact leh hc8
                · rw [hc8] at hbl ⊢
                  simp only [blk8, List.take_succ_cons, List.take_zero, List.any_cons, List.any_nil, Bool.or_false, Bool.or_eq_false_iff, long24, decide_eq_false_iff_not] at hbl ⊢
                  omega
          · rw [hc8] at hbl
            have hsm : big8 s = false := hbl
            have hset : SetOk xs i := ⟨by rw [hs]; exact h1, fun hp => by rw [hs]; exact (less_or _ _).1 (h2 (by omega)), by rw [hs]; omega, by rw [hs]; exact hsm⟩
            refine goh hc8 ?_
            refine W_cnd ?_ ?_ <;> intro hlit <;> try (cases hlit; done)
            refine goh trivial ?_
            refine ⟨xs.length - (i + 1), [some 0], sgSb xs (i + 1), by omega, ?_, i + 1, by omega, rfl, fun j hj => ?_, rfl⟩
            · exact leh trivial
            · rcases Nat.lt_succ_iff_lt_or_eq.1 hj with h | rfl
              · exact hbef j h
              · exact hset
      · refine goh trivial ?_
        refine W_le (σ' := sgSr2 xs 0) [some 0] (by
          simp only [go_sem, inj_r, ↓reduceIte, reduceCtorEq, Nat.reduceAdd, Nat.reduceLT, Nat.reduceLeDiff, Nat.reduceEqDiff, Int.reduceEq]
          all_goals (repeat' refine And.intro ?_ ?_) <;> try exact shut7
          ) ?_
        have hall : ∀ j, j < xs.length → SetOk xs j := fun j hj => hbef j (by omega)
        have hso := sorted_of hall
        refine W_loop (fun q σ => ∃ i : Nat, i ≤ xs.length ∧ q = xs.length - i ∧ (∀ j, j < i → leadsN xs xs.length (xs.getD j ET.bset.dflt) = true) ∧ σ = sgSr2 xs i) xs.length ⟨0, by omega, by omega, by omega, rfl⟩ ?_
        clear hbef hlt hi
        clear i
        rintro q σ ⟨i, hi, rfl, hbef, rfl⟩
        unfold sgSr2
        refine goh trivial ?_
        refine W_cnd ?_ ?_ <;> (try simp only [cnd_r]) <;> intro hlt
        · have hm := leads_more xs i (by omega)
          refine goh hm ?_
          refine W_cond _ (by exact rfl) (by exact trivial) ?_ ?_ <;> intro hl
          · have e : bookB xs = false := bookB_false.2 fun h => by
              have h1 := h.leads
              rw [List.any_eq_false] at h1
              have h2 := h1 (xs.getD i ET.bset.dflt) (by simp [show i < xs.length by omega])
              simp only [Bool.not_eq_true', Bool.not_eq_false] at h2 hl
              rw [hl] at h2
              simp at h2
            refine goh trivial ?_
            exact finh [] e
          · have hl2 : leadsN xs xs.length (xs.getD i ET.bset.dflt) = true := by simpa only [Bool.not_eq_false'] using hl
            refine goh trivial ?_
            refine ⟨xs.length - (i + 1), [some 0], sgSr2 xs (i + 1), by omega, ?_, i + 1, by omega, rfl, fun j hj => ?_, rfl⟩
            · exact leh trivial
            · rcases Nat.lt_succ_iff_lt_or_eq.1 hj with h | rfl
              · exact hbef j h
              · exact hl2
        · have e : bookB xs = true := bookB_true.2 ⟨by omega, hall, by
            rw [List.any_eq_false]
            intro s hs
            obtain ⟨j, hj, rfl⟩ := List.getElem_of_mem hs
            have h1 := hbef j (by omega)
            rw [show xs.getD j ET.bset.dflt = xs[j] by simp [hj]] at h1
            rw [h1]; decide⟩
          refine goh trivial ?_
          exact finh [] e
  · simp [no, ifp] at hp
end Go.Proofs.YtjedcphhajlnoaaGreatDoor
/- Functions: single sets. -/
namespace Go.Proofs.YtjedcphhajlnoaaGreatDoor
open Go.RowKit

@[go_sem] noncomputable def ctBadPtr : Ct := ⟨false, [], fun args os => match args, os with
  | [.agg [.val (.int .i64 a), .val (.int .i64 s), .val (.int .i64 b)]], [] => is (vb (badPtr ⟨a, s, b⟩))
  | _, _ => no⟩
theorem s_setOk1_e : EnterOk Tryz.prog 260 := ⟨_, Tryz.func260, rfl, by decide⟩
@[go_sem] def s_setOk1_lv : List (List Nat) := [[1], [2]]
@[go_sem] noncomputable def s_setOk1_K : Known := (Known.nil).cons 24 ctPtrOk s_ptrOk s_ptrOk_e
set_option maxHeartbeats 8000000 in
theorem s_setOk1 : Sound Tryz.prog 260 ctBadPtr := by
  have ke := s_setOk1_K.env []
  have kl : Lives s_setOk1_lv := trivial
  refine sound_intro (E := ⟨ti, s_setOk1_K.Γ, []⟩) ke Tryz.func260 Tryz.ntmps260 rfl (rs := [.tmp 2]) rfl ?_
  intro args os hp
  unfold ctBadPtr at hp ⊢
  dsimp only at hp ⊢
  split at hp
  · rename_i a s b
    refine ⟨by simp, fun φ0 w0 => ?_⟩
    refine goh trivial ?_
    refine ⟨by (simp only [go_sem, badPtr, ↓reduceIte, reduceCtorEq, Nat.reduceAdd, Nat.reduceLT, Nat.reduceLeDiff, Nat.reduceEqDiff]) <;> trivial, [], ?_⟩
    all_goals try simp only [go_sem, badPtr, inj_r, ↓reduceIte, reduceCtorEq, Nat.reduceAdd, Nat.reduceLT, Nat.reduceLeDiff, Nat.reduceEqDiff, Int.reduceEq]
    all_goals (repeat' refine And.intro ?_ ?_) <;> try exact shut7
  · simp [no, is] at hp
@[go_sem] noncomputable def ctPartBad : Ct := ⟨false, [], fun args os => match args, os with
  | [.agg [.val (.int .i64 a), .val (.int .i64 s), .val (.int .i64 b)]], [] => is (vb (partBad ⟨a, s, b⟩))
  | _, _ => no⟩
theorem s_coreOk1_e : EnterOk Tryz.prog 220 := ⟨_, Tryz.func220, rfl, by decide⟩
@[go_sem] def s_coreOk1_lv : List (List Nat) := [[1], [2]]
@[go_sem] noncomputable def s_coreOk1_K : Known := (Known.nil).cons 91 ctReal s_isReal s_isReal_e
set_option maxHeartbeats 8000000 in
theorem s_coreOk1 : Sound Tryz.prog 220 ctPartBad := by
  have ke := s_coreOk1_K.env []
  have kl : Lives s_coreOk1_lv := trivial
  refine sound_intro (E := ⟨ti, s_coreOk1_K.Γ, []⟩) ke Tryz.func220 Tryz.ntmps220 rfl (rs := [.tmp 2]) rfl ?_
  intro args os hp
  unfold ctPartBad at hp ⊢
  dsimp only at hp ⊢
  split at hp
  · rename_i a s b
    refine ⟨by simp, fun φ0 w0 => ?_⟩
    refine goh trivial ?_
    refine ⟨by (simp only [go_sem, partBad, ↓reduceIte, reduceCtorEq, Nat.reduceAdd, Nat.reduceLT, Nat.reduceLeDiff, Nat.reduceEqDiff]) <;> trivial, [], ?_⟩
    all_goals try simp only [go_sem, partBad, inj_r, ↓reduceIte, reduceCtorEq, Nat.reduceAdd, Nat.reduceLT, Nat.reduceLeDiff, Nat.reduceEqDiff, Int.reduceEq]
    all_goals (repeat' refine And.intro ?_ ?_) <;> try exact shut7
  · simp [no, is] at hp
@[go_sem] noncomputable def ctIxBadPtr : Ct := ⟨false, [[some .ptr]], fun args os => match args, os with
  | [.one (.isl .ptr xs), .one (.fn 260 [])], [] => ifp (xs.length ≤ 4000000) (vi (firstAt badPtr xs))
  | _, _ => no⟩
theorem s_ixBadPtr_e : EnterOk Tryz.prog 259 := ⟨_, Tryz.func259, rfl, by decide⟩
@[go_sem] def s_ixBadPtr_lv : List (List Nat) := [[0, 1], [0, 1, 7, 8], [0, 1, 7, 8, 9], [0, 1, 5, 7, 8], [0, 1, 5, 7, 8, 16], [4], [0, 1, 7, 8], [4]]
@[go_sem] noncomputable def s_ixBadPtr_K : Known := (Known.nil).cons 260 ctBadPtr s_setOk1 s_setOk1_e
set_option maxHeartbeats 8000000 in
theorem s_ixBadPtr : Sound Tryz.prog 259 ctIxBadPtr := by
  have ke := s_ixBadPtr_K.env []
  have kl : Lives s_ixBadPtr_lv := trivial
  refine sound_intro (E := ⟨ti, s_ixBadPtr_K.Γ, []⟩) ke Tryz.func259 Tryz.ntmps259 rfl (rs := [.tmp 4]) rfl ?_
  intro args os hp
  unfold ctIxBadPtr at hp ⊢
  dsimp only at hp ⊢
  split at hp
  · rename_i xs
    refine ⟨by simp, fun φ0 w0 => ?_⟩
    have hlen : xs.length ≤ 4000000 := hp
    refine goh trivial ?_
    refine W_for xs.length (fun i => ∀ j, j < i → badPtr (xs.getD j ET.ptr.dflt) = false) (fun i => ⟨[(8, vi i), (7, vi xs.length), (0, .one (.isl .ptr xs)), (1, .one (.fn 260 []))], [], []⟩) [] (leh trivial) (by omega) fun i hi hb => ?_
    refine goh trivial ?_
    refine W_cnd ?_ ?_ <;> (try simp only [cnd_r]) <;> intro hlt
    · refine goh trivial ?_
      refine W_cnd ?_ ?_ <;> (try simp only [cnd_r]) <;> intro hl
      · have e : firstAt badPtr xs = i := firstAt_some (d := ET.ptr.dflt) (by omega) hb hl
        refine goh trivial ?_
        exact finh [] e
      · refine goh trivial ?_
        exact ⟨[], by omega, leh trivial, fun j hj => by
          rcases Nat.lt_succ_iff_lt_or_eq.1 hj with h | rfl
          · exact hb j h
          · exact hl⟩
    · have e : firstAt badPtr xs = -1 := firstAt_none (d := ET.ptr.dflt) fun j hj => hb j (by omega)
      refine goh trivial ?_
      exact finh [] e
  · simp [no, ifp] at hp
@[go_sem] noncomputable def ctHasBadPtr : Ct := ⟨false, [[some .ptr]], fun args os => match args, os with
  | [.one (.isl .ptr xs), .one (.fn 260 [])], [] => ifp (xs.length ≤ 4000000) (vb (xs.any badPtr))
  | _, _ => no⟩
theorem s_hasBadPtr_e : EnterOk Tryz.prog 219 := ⟨_, Tryz.func219, rfl, by decide⟩
@[go_sem] def s_hasBadPtr_lv : List (List Nat) := [[0, 1], [4]]
@[go_sem] noncomputable def s_hasBadPtr_K : Known := (Known.nil).cons 259 ctIxBadPtr s_ixBadPtr s_ixBadPtr_e
set_option maxHeartbeats 8000000 in
theorem s_hasBadPtr : Sound Tryz.prog 219 ctHasBadPtr := by
  have ke := s_hasBadPtr_K.env []
  have kl : Lives s_hasBadPtr_lv := trivial
  refine sound_intro (E := ⟨ti, s_hasBadPtr_K.Γ, []⟩) ke Tryz.func219 Tryz.ntmps219 rfl (rs := [.tmp 4]) rfl ?_
  intro args os hp
  unfold ctHasBadPtr at hp ⊢
  dsimp only at hp ⊢
  split at hp
  · rename_i xs
    refine ⟨by simp, fun φ0 w0 => ?_⟩
    have hlen : xs.length ≤ 4000000 := hp
    refine goh trivial ?_
    refine ⟨by (simp only [go_sem, ↓reduceIte, reduceCtorEq, Nat.reduceAdd, Nat.reduceLT, Nat.reduceLeDiff, Nat.reduceEqDiff]) <;> trivial, [], ?_⟩
    all_goals try simp only [go_sem, inj_r, ↓reduceIte, reduceCtorEq, Nat.reduceAdd, Nat.reduceLT, Nat.reduceLeDiff, Nat.reduceEqDiff, Int.reduceEq]
    all_goals (repeat' refine And.intro ?_ ?_) <;> try exact shut7
    exact firstAt_ge _ _
  · simp [no, ifp] at hp
@[go_sem] noncomputable def ctIxPart : Ct := ⟨false, [[some .ptr]], fun args os => match args, os with
  | [.one (.isl .ptr xs), .one (.fn 220 [])], [] => ifp (xs.length ≤ 4000000) (vi (firstAt partBad xs))
  | _, _ => no⟩
theorem s_ixPart_e : EnterOk Tryz.prog 259 := ⟨_, Tryz.func259, rfl, by decide⟩
@[go_sem] def s_ixPart_lv : List (List Nat) := [[0, 1], [0, 1, 7, 8], [0, 1, 7, 8, 9], [0, 1, 5, 7, 8], [0, 1, 5, 7, 8, 16], [4], [0, 1, 7, 8], [4]]
@[go_sem] noncomputable def s_ixPart_K : Known := (Known.nil).cons 220 ctPartBad s_coreOk1 s_coreOk1_e
set_option maxHeartbeats 8000000 in
theorem s_ixPart : Sound Tryz.prog 259 ctIxPart := by
  have ke := s_ixPart_K.env []
  have kl : Lives s_ixPart_lv := trivial
  refine sound_intro (E := ⟨ti, s_ixPart_K.Γ, []⟩) ke Tryz.func259 Tryz.ntmps259 rfl (rs := [.tmp 4]) rfl ?_
  intro args os hp
  unfold ctIxPart at hp ⊢
  dsimp only at hp ⊢
  split at hp
  · rename_i xs
    refine ⟨by simp, fun φ0 w0 => ?_⟩
    have hlen : xs.length ≤ 4000000 := hp
    refine goh trivial ?_
    refine W_for xs.length (fun i => ∀ j, j < i → partBad (xs.getD j ET.ptr.dflt) = false) (fun i => ⟨[(8, vi i), (7, vi xs.length), (0, .one (.isl .ptr xs)), (1, .one (.fn 220 []))], [], []⟩) [] (leh trivial) (by omega) fun i hi hb => ?_
    refine goh trivial ?_
    refine W_cnd ?_ ?_ <;> (try simp only [cnd_r]) <;> intro hlt
    · refine goh trivial ?_
      refine W_cnd ?_ ?_ <;> (try simp only [cnd_r]) <;> intro hl
      · have e : firstAt partBad xs = i := firstAt_some (d := ET.ptr.dflt) (by omega) hb hl
        refine goh trivial ?_
        exact finh [] e
      · refine goh trivial ?_
        exact ⟨[], by omega, leh trivial, fun j hj => by
          rcases Nat.lt_succ_iff_lt_or_eq.1 hj with h | rfl
          · exact hb j h
          · exact hl⟩
    · have e : firstAt partBad xs = -1 := firstAt_none (d := ET.ptr.dflt) fun j hj => hb j (by omega)
      refine goh trivial ?_
      exact finh [] e
  · simp [no, ifp] at hp
@[go_sem] noncomputable def ctHasPart : Ct := ⟨false, [[some .ptr]], fun args os => match args, os with
  | [.one (.isl .ptr xs), .one (.fn 220 [])], [] => ifp (xs.length ≤ 4000000) (vb (xs.any partBad))
  | _, _ => no⟩
theorem s_hasPart_e : EnterOk Tryz.prog 219 := ⟨_, Tryz.func219, rfl, by decide⟩
@[go_sem] def s_hasPart_lv : List (List Nat) := [[0, 1], [4]]
@[go_sem] noncomputable def s_hasPart_K : Known := (Known.nil).cons 259 ctIxPart s_ixPart s_ixPart_e
set_option maxHeartbeats 8000000 in
theorem s_hasPart : Sound Tryz.prog 219 ctHasPart := by
  have ke := s_hasPart_K.env []
  have kl : Lives s_hasPart_lv := trivial
  refine sound_intro (E := ⟨ti, s_hasPart_K.Γ, []⟩) ke Tryz.func219 Tryz.ntmps219 rfl (rs := [.tmp 4]) rfl ?_
  intro args os hp
  unfold ctHasPart at hp ⊢
  dsimp only at hp ⊢
  split at hp
  · rename_i xs
    refine ⟨by simp, fun φ0 w0 => ?_⟩
    have hlen : xs.length ≤ 4000000 := hp
    refine goh trivial ?_
    refine ⟨by (simp only [go_sem, ↓reduceIte, reduceCtorEq, Nat.reduceAdd, Nat.reduceLT, Nat.reduceLeDiff, Nat.reduceEqDiff]) <;> trivial, [], ?_⟩
    all_goals try simp only [go_sem, inj_r, ↓reduceIte, reduceCtorEq, Nat.reduceAdd, Nat.reduceLT, Nat.reduceLeDiff, Nat.reduceEqDiff, Int.reduceEq]
    all_goals (repeat' refine And.intro ?_ ?_) <;> try exact shut7
    exact firstAt_ge _ _
  · simp [no, ifp] at hp
structure CSet.small (s : CSet) : Prop where
  name : s.name.size ≤ 9223372036854775807
  from_ : s.from_.size ≤ 9223372036854775807
@[go_sem] noncomputable def ctSetOk : Ct := ⟨false, [], fun args os => match args, os with
  | [.agg cs], [] => (match csetOf cs with | some s => ifp s.small (vb (csetB s)) | none => no)
  | _, _ => no⟩
theorem s_setOk_e : EnterOk Tryz.prog 223 := ⟨_, Tryz.func223, rfl, by decide⟩
@[go_sem] def s_setOk_lv : List (List Nat) := [[1], [1, 33], [2], [2]]
@[go_sem] noncomputable def s_setOk_K : Known := ((((Known.nil).cons 127 ctName s_bookName s_bookName_e).cons 24 ctPtrOk s_ptrOk s_ptrOk_e).cons 219 ctHasBadPtr s_hasBadPtr s_hasBadPtr_e).cons 260 ctBadPtr s_setOk1 s_setOk1_e
set_option maxHeartbeats 8000000 in
theorem s_setOk : Sound Tryz.prog 223 ctSetOk := by
  have ke := s_setOk_K.env []
  have kl : Lives s_setOk_lv := trivial
  refine sound_intro (E := ⟨ti, s_setOk_K.Γ, []⟩) ke Tryz.func223 Tryz.ntmps223 rfl (rs := [.tmp 2]) rfl ?_
  intro args os hp
  unfold ctSetOk at hp ⊢
  dsimp only at hp ⊢
  split at hp
  · rename_i cs
    split at hp
    · rename_i s hs
      obtain rfl := csetOf_some hs
      obtain ⟨h1, h2⟩ : s.small := hp
      clear hs
      refine ⟨by simp, fun φ0 w0 => ?_⟩
      refine goh trivial ?_
      refine W_cnd ?_ ?_ <;> (try simp only [cnd_r]) <;> intro hc
      · have e := csetB_no hc
        refine goh trivial ?_
        exact finh [] e
      · have e := csetB_yes hc
        simp only [Eight.list, List.any_cons, List.any_nil, Bool.or_false] at e
        refine goh trivial ?_
        exact finh [] e
    · simp [no] at hp
  · simp [no] at hp
theorem s_l6Set_e : EnterOk Tryz.prog 150 := ⟨_, Tryz.func150, rfl, by decide⟩
@[go_sem] def s_l6Set_lv : List (List Nat) := [[1], [1, 34], [2], [1, 3], [1, 3, 36], [1, 3], [1, 3, 44], [2], [2]]
@[go_sem] noncomputable def s_l6Set_K : Known := ((Known.nil).cons 132 ctName s_specName s_specName_e).cons 25 ctPtrOk s_specPtrOk s_specPtrOk_e
set_option maxHeartbeats 8000000 in
theorem s_l6Set : Sound Tryz.prog 150 ctSetOk := by
  have ke := s_l6Set_K.env []
  have kl : Lives s_l6Set_lv := trivial
  refine sound_intro (E := ⟨ti, s_l6Set_K.Γ, []⟩) ke Tryz.func150 Tryz.ntmps150 rfl (rs := [.tmp 2]) rfl ?_
  intro args os hp
  unfold ctSetOk at hp ⊢
  dsimp only at hp ⊢
  split at hp
  · rename_i cs
    split at hp
    · rename_i s hs
      obtain rfl := csetOf_some hs
      obtain ⟨h1, h2⟩ : s.small := hp
      clear hs
      refine ⟨by simp, fun φ0 w0 => ?_⟩
      refine goh trivial ?_
      refine W_cnd ?_ ?_ <;> (try simp only [cnd_r]) <;> intro hc
      · have e : csetB s = false := csetB_no (by
          rcases hc with ((h | h) | h) | h
          · exact .inl (.inl h)
          · exact .inl (.inr (by omega))
          · exact .inl (.inr (by omega))
          · exact .inr h)
        refine goh trivial ?_
        exact finh [] e
      · have e : csetB s = !s.map.list.any badPtr := csetB_yes ⟨⟨hc.1.1.1, fun _ => by omega⟩, hc.2⟩
        refine goh trivial ?_
        refine W_for 8 (fun i => (s.map.list.take i).any badPtr = false) (fun i => ⟨[(1, .one (.ptr 0 0)), (3, vi i)], [some (.cells ((ET.cset.cells s).map .val))], []⟩) [some 0] (leh trivial) rfl fun i hi hb => ?_
        rcases (show i < 8 ∨ i = 8 by omega) with hi8 | hc8
        · rcases (show i = 0 ∨ i = 1 ∨ i = 2 ∨ i = 3 ∨ i = 4 ∨ i = 5 ∨ i = 6 ∨ i = 7 by omega) with hc8 | hc8 | hc8 | hc8 | hc8 | hc8 | hc8 | hc8
          all_goals
            subst hc8
            refine goh trivial ?_
            refine W_cnd ?_ ?_ <;> intro hlit <;> try (cases hlit; done)
            refine goh trivial ?_
            refine W_cnd ?_ ?_ <;> (try simp only [cnd_r]) <;> intro hl
            · have e : csetB s = false := by
                rw [e]
                simp only [Eight.list, List.any_cons, List.any_nil, Bool.or_false, badPtr, hl, Bool.not_false, Bool.true_or, Bool.or_true, Bool.not_true]
              refine goh trivial ?_
              exact finh [] e
            · refine goh trivial ?_
              exact ⟨[some 0], by omega, leh trivial, by
                simp only [Eight.list, List.take_succ_cons, List.take_zero, List.any_cons, List.any_nil, Bool.or_false, badPtr, Bool.or_eq_false_iff] at hb ⊢
                simp only [hb, hl, Bool.not_true, and_self]⟩
        · subst hc8
          have e : csetB s = true := by rw [e, show s.map.list = s.map.list.take 8 from rfl, hb]; rfl
          refine goh trivial ?_
          refine W_cnd ?_ ?_ <;> intro hlit <;> try (cases hlit; done)
          refine goh trivial ?_
          exact finh [] e
    · simp [no] at hp
  · simp [no] at hp
end Go.Proofs.YtjedcphhajlnoaaGreatDoor
/- Functions: the book of a core's sets; sets that are not well formed. -/
namespace Go.Proofs.YtjedcphhajlnoaaGreatDoor
open Go.RowKit

@[go_sem] noncomputable def ctFrame : Ct := ⟨false, [[none, some .cset, some .ent, some .ptr, none, some .int, none]], fun args os => match args, os with
  | [.agg [.val (.int .i64 txg), .isl .cset cs, .isl .ent es, .isl .ptr ps, .val (.bool dirty), .isl .int zs, .val (.int .i64 logn)]], [] => ⟨cs.length ≤ 4000000, .agg [.osl .bset 0 0 (frameOf cs).length], [], [.arr .bset (frameOf cs)]⟩
  | _, _ => no⟩
attribute [go_sem] Eight.rep
theorem frame_takes (cs : List CSet) (i : Nat) : (frameOf (cs.take i)).take i = frameOf (cs.take i) := List.take_of_length_le (by rw [frame_len, List.length_take]; omega)
theorem frame_end {cs : List CSet} {i : Nat} (h : cs.length ≤ i) : frameOf (cs.take i) = frameOf cs := by rw [List.take_of_length_le h]
theorem s_frame_e : EnterOk Tryz.prog 225 := ⟨_, Tryz.func225, rfl, by decide⟩
@[go_sem] def s_frame_lv : List (List Nat) := [[1, 2], [1, 2, 3], [2, 3, 7, 8, 9], [2, 3, 7, 8, 9, 10], [2, 3, 5, 7, 8, 9], [2, 3, 7, 8, 9], [2, 3, 7, 8, 9], [2]]
@[go_sem] noncomputable def s_frame_K : Known := Known.nil
set_option maxHeartbeats 8000000 in
theorem s_frame : Sound Tryz.prog 225 ctFrame := by
  have ke := s_frame_K.env []
  have kl : Lives s_frame_lv := trivial
  refine sound_intro (E := ⟨ti, s_frame_K.Γ, []⟩) ke Tryz.func225 Tryz.ntmps225 rfl (rs := [.cell 2 119]) rfl ?_
  intro args os hp
  unfold ctFrame at hp ⊢
  dsimp only at hp ⊢
  split at hp
  · rename_i txg cs es ps dirty zs logn
    refine ⟨by simp, fun φ0 w0 => ?_⟩
    have hlen : cs.length ≤ 4000000 := hp
    refine goh trivial ?_
    refine W_for cs.length (fun i => True) (fun i => ⟨[(2, .one (.ptr 0 0)), (3, .one (.ptr 1 0)), (7, .one (.isl .cset cs)), (8, vi cs.length), (9, vi i)], [some (.cells [.val (.slice none 0 0)]), some (.cells [.osl .bset 2 0 i]), some (.arr .bset (frameOf (cs.take i)))], []⟩) [some 1, some 2, none] (leh trivial) trivial fun i hi _ => ?_
    refine goh trivial ?_
    refine W_cnd ?_ ?_ <;> (try simp only [cnd_r]) <;> intro hlt
    · have hk := frame_take (show i < cs.length by omega)
      have hl : (frameOf (cs.take i)).length = i := by rw [frame_len, List.length_take]; omega
      refine goh hl ?_
      exact ⟨[some 0, some 1, some 5], by omega, leh (And.intro (frame_takes cs i) hk), trivial⟩
    · have e := frame_end (show cs.length ≤ i by omega)
      obtain rfl : i = cs.length := by omega
      refine goh trivial ?_
      exact finh [some 2] (And.intro e ((frame_len cs)))
  · simp [no, ifp] at hp
theorem s_l6Names_e : EnterOk Tryz.prog 74 := ⟨_, Tryz.func74, rfl, by decide⟩
@[go_sem] def s_l6Names_lv : List (List Nat) := [[1, 2], [1, 2, 3], [1, 2, 3, 4], [1, 2, 3, 4, 10], [1, 2, 3, 4], [1, 2, 3, 4], [2]]
@[go_sem] noncomputable def s_l6Names_K : Known := Known.nil
set_option maxHeartbeats 8000000 in
theorem s_l6Names : Sound Tryz.prog 74 ctFrame := by
  have ke := s_l6Names_K.env []
  have kl : Lives s_l6Names_lv := trivial
  refine sound_intro (E := ⟨ti, s_l6Names_K.Γ, []⟩) ke Tryz.func74 Tryz.ntmps74 rfl (rs := [.cell 2 119]) rfl ?_
  intro args os hp
  unfold ctFrame at hp ⊢
  dsimp only at hp ⊢
  split at hp
  · rename_i txg cs es ps dirty zs logn
    refine ⟨by simp, fun φ0 w0 => ?_⟩
    have hlen : cs.length ≤ 4000000 := hp
    refine goh trivial ?_
    refine W_for cs.length (fun i => True) (fun i => ⟨[(1, .one (.ptr 0 0)), (2, .one (.ptr 1 0)), (3, .one (.ptr 2 0)), (4, vi i)], [some (.cells [.val (.int .i64 txg), .isl .cset cs, .isl .ent es, .isl .ptr ps, .val (.bool dirty), .isl .int zs, .val (.int .i64 logn)]), some (.cells [.val (.slice none 0 0)]), some (.cells [.osl .bset 3 0 i]), some (.arr .bset (frameOf (cs.take i)))], []⟩) [some 0, some 1, some 2, none] (leh trivial) trivial fun i hi _ => ?_
    refine goh trivial ?_
    refine W_cnd ?_ ?_ <;> (try simp only [cnd_r]) <;> intro hlt
    · have hk := frame_take (show i < cs.length by omega)
      have hl : (frameOf (cs.take i)).length = i := by rw [frame_len, List.length_take]; omega
      refine goh hl ?_
      exact ⟨[some 0, some 1, some 2, some 5], by omega, leh (And.intro (frame_takes cs i) hk), trivial⟩
    · have e := frame_end (show cs.length ≤ i by omega)
      obtain rfl : i = cs.length := by omega
      refine goh trivial ?_
      exact finh [some 3] (And.intro e ((frame_len cs)))
  · simp [no, ifp] at hp
end Go.Proofs.YtjedcphhajlnoaaGreatDoor
