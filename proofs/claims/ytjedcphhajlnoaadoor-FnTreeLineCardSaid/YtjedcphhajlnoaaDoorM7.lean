import Derived.Test.YtjedcphhajlnoaaDoorM6
set_option linter.unusedSimpArgs false
set_option linter.unusedVariables false
set_option linter.unusedSectionVars false
/- Functions: valid books, the program's. -/
namespace Go.Proofs.YtjedcphhajlnoaaDoor
open Go.RowKit

@[go_sem] def ctLong24 : Ct := ⟨false, [], fun args os => match args, os with
  | [.one (.val (.string t))], [] => is (vb (long24 t))
  | _, _ => no⟩
theorem s_long24_e : EnterOk Tryd.prog 46 := ⟨_, Tryd.func46, rfl, by decide⟩
@[go_sem] def s_long24_lv : List (List Nat) := [[0], [2]]
@[go_sem] noncomputable def s_long24_K : Known := Known.nil
set_option maxHeartbeats 8000000 in
theorem s_long24 : Sound Tryd.prog 46 ctLong24 := by
  have ke := s_long24_K.env []
  have kl : Lives s_long24_lv := trivial
  refine sound_intro (E := ⟨ti, s_long24_K.Γ, []⟩) ke Tryd.func46 Tryd.ntmps46 rfl (rs := [.tmp 2]) rfl ?_
  intro args os hp
  unfold ctLong24 at hp ⊢
  dsimp only at hp ⊢
  split at hp
  · rename_i t
    refine ⟨by simp, fun φ0 w0 => ?_⟩
    refine goh trivial ?_
    refine ⟨by (simp only [go_sem, long24, ↓reduceIte, reduceCtorEq, Nat.reduceAdd, Nat.reduceLT, Nat.reduceLeDiff, Nat.reduceEqDiff]) <;> trivial, [], ?_⟩
    all_goals try simp only [go_sem, long24, inj_r, ↓reduceIte, reduceCtorEq, Nat.reduceAdd, Nat.reduceLT, Nat.reduceLeDiff, Nat.reduceEqDiff, Int.reduceEq]
    all_goals (repeat' refine And.intro ?_ ?_) <;> try exact shut7
  · simp [no, is] at hp
@[go_sem] def ctIndex24 : Ct := ⟨false, [[some .str]], fun args os => match args, os with
  | [.one (.isl .str xs), .one (.fn 46 [])], [] => ifp (xs.length ≤ 4000000) (vi (firstAt long24 xs))
  | _, _ => no⟩
@[go_sem] def sgIndex24 (xs : List ByteArray) (i : Nat) : Sg := ⟨[(8, vi i), (7, vi xs.length), (0, .one (.isl .str xs)), (1, .one (.fn 46 []))], [], []⟩
theorem s_index24_e : EnterOk Tryd.prog 66 := ⟨_, Tryd.func66, rfl, by decide⟩
@[go_sem] def s_index24_lv : List (List Nat) := [[0, 1], [0, 1, 7, 8], [0, 1, 7, 8, 9], [0, 1, 5, 7, 8], [0, 1, 5, 7, 8, 16], [4], [0, 1, 7, 8], [4]]
@[go_sem] noncomputable def s_index24_K : Known := (Known.nil).cons 46 ctLong24 s_long24 s_long24_e
set_option maxHeartbeats 8000000 in
theorem s_index24 : Sound Tryd.prog 66 ctIndex24 := by
  have ke := s_index24_K.env []
  have kl : Lives s_index24_lv := trivial
  refine sound_intro (E := ⟨ti, s_index24_K.Γ, []⟩) ke Tryd.func66 Tryd.ntmps66 rfl (rs := [.tmp 4]) rfl ?_
  intro args os hp
  unfold ctIndex24 at hp ⊢
  dsimp only at hp ⊢
  split at hp
  · rename_i xs
    refine ⟨by simp, fun φ0 w0 => ?_⟩
    have hlen : xs.length ≤ 4000000 := hp
    clear hp
    refine goh trivial ?_
    refine W_le (σ' := sgIndex24 xs 0) [] (by
      simp only [go_sem, inj_r, ↓reduceIte, reduceCtorEq, Nat.reduceAdd, Nat.reduceLT, Nat.reduceLeDiff, Nat.reduceEqDiff, Int.reduceEq]
      all_goals (repeat' refine And.intro ?_ ?_) <;> try exact shut7
      ) ?_
    refine W_loop (fun n σ => ∃ i : Nat, i ≤ xs.length ∧ n = xs.length - i ∧ (∀ j, j < i → long24 (xs.getD j ET.str.dflt) = false) ∧ σ = sgIndex24 xs i) xs.length ⟨0, by omega, by omega, by omega, rfl⟩ ?_
    rintro n σ ⟨i, hi, rfl, hbef, rfl⟩
    unfold sgIndex24
    refine goh trivial ?_
    refine W_cnd ?_ ?_ <;> (try simp only [cnd_r]) <;> intro hlt
    · refine goh trivial ?_
      refine W_cnd ?_ ?_ <;> (try simp only [cnd_r]) <;> intro hl
      · refine goh trivial ?_
        refine ⟨by (simp only [go_sem, ↓reduceIte, reduceCtorEq, Nat.reduceAdd, Nat.reduceLT, Nat.reduceLeDiff, Nat.reduceEqDiff]) <;> trivial, [], ?_⟩
        all_goals try simp only [go_sem, inj_r, ↓reduceIte, reduceCtorEq, Nat.reduceAdd, Nat.reduceLT, Nat.reduceLeDiff, Nat.reduceEqDiff, Int.reduceEq]
        all_goals (repeat' refine And.intro ?_ ?_) <;> try exact shut7
        exact (firstAt_some (by omega) hbef hl).symm
      · refine goh trivial ?_
        refine ⟨xs.length - (i + 1), [], sgIndex24 xs (i + 1), by omega, ?_, i + 1, by omega, rfl, fun j hj => ?_, rfl⟩
        · exact leh trivial
        · rcases Nat.lt_succ_iff_lt_or_eq.1 hj with h | rfl
          · exact hbef j h
          · exact hl
    · refine goh trivial ?_
      refine ⟨by (simp only [go_sem, ↓reduceIte, reduceCtorEq, Nat.reduceAdd, Nat.reduceLT, Nat.reduceLeDiff, Nat.reduceEqDiff]) <;> trivial, [], ?_⟩
      all_goals try simp only [go_sem, inj_r, ↓reduceIte, reduceCtorEq, Nat.reduceAdd, Nat.reduceLT, Nat.reduceLeDiff, Nat.reduceEqDiff, Int.reduceEq]
      all_goals (repeat' refine And.intro ?_ ?_) <;> try exact shut7
      exact (firstAt_none fun j hj => hbef j (by omega)).symm
  · simp [no, ifp] at hp
@[go_sem] def ctHas24 : Ct := ⟨false, [[some .str]], fun args os => match args, os with
  | [.one (.isl .str xs), .one (.fn 46 [])], [] => ifp (xs.length ≤ 4000000) (vb (xs.any long24))
  | _, _ => no⟩
theorem s_has24_e : EnterOk Tryd.prog 45 := ⟨_, Tryd.func45, rfl, by decide⟩
@[go_sem] def s_has24_lv : List (List Nat) := [[0, 1], [4]]
@[go_sem] noncomputable def s_has24_K : Known := (Known.nil).cons 66 ctIndex24 s_index24 s_index24_e
set_option maxHeartbeats 8000000 in
theorem s_has24 : Sound Tryd.prog 45 ctHas24 := by
  have ke := s_has24_K.env []
  have kl : Lives s_has24_lv := trivial
  refine sound_intro (E := ⟨ti, s_has24_K.Γ, []⟩) ke Tryd.func45 Tryd.ntmps45 rfl (rs := [.tmp 4]) rfl ?_
  intro args os hp
  unfold ctHas24 at hp ⊢
  dsimp only at hp ⊢
  split at hp
  · rename_i xs
    refine ⟨by simp, fun φ0 w0 => ?_⟩
    have hlen : xs.length ≤ 4000000 := hp
    clear hp
    refine goh trivial ?_
    refine ⟨by (simp only [go_sem, ↓reduceIte, reduceCtorEq, Nat.reduceAdd, Nat.reduceLT, Nat.reduceLeDiff, Nat.reduceEqDiff]) <;> trivial, [], ?_⟩
    all_goals try simp only [go_sem, inj_r, ↓reduceIte, reduceCtorEq, Nat.reduceAdd, Nat.reduceLT, Nat.reduceLeDiff, Nat.reduceEqDiff, Int.reduceEq]
    all_goals (repeat' refine And.intro ?_ ?_) <;> try exact shut7
    exact firstAt_ge _ _
  · simp [no, ifp] at hp
@[go_sem] noncomputable def ctNamed : Ct := ⟨true, [], fun args os => match args, os with
  | [.agg cs, .one (.ptr 0 0)], [.cells ds] => (match bsetOf cs, bsetOf ds with | some x, some s => is (vb (same x.name s.from_)) | _, _ => no)
  | _, _ => no⟩
theorem s_named_e : EnterOk Tryd.prog 68 := ⟨_, Tryd.func68, rfl, by decide⟩
@[go_sem] def s_named_lv : List (List Nat) := [[1, 2], [3]]
@[go_sem] noncomputable def s_named_K : Known := Known.nil
set_option maxHeartbeats 8000000 in
theorem s_named : Sound Tryd.prog 68 ctNamed := by
  have ke := s_named_K.env []
  have kl : Lives s_named_lv := trivial
  refine sound_intro (E := ⟨ti, s_named_K.Γ, []⟩) ke Tryd.func68 Tryd.ntmps68 rfl (rs := [.tmp 3]) rfl ?_
  intro args os hp
  unfold ctNamed at hp ⊢
  dsimp only at hp ⊢
  split at hp
  · rename_i cs ds
    split at hp
    · rename_i x s hx hs
      obtain rfl := bsetOf_some hx
      obtain rfl := bsetOf_some hs
      clear hx hs hp
      refine ⟨by simp, fun φ0 w0 => ?_⟩
      refine goh trivial ?_
      exact finh [some 0] trivial
    · simp [no] at hp
  · simp [no] at hp
@[go_sem] noncomputable def ctIndexNamed : Ct := ⟨true, [[some .bset]], fun args os => match args, os with
  | [.one (.isl .bset xs), .one (.fn 68 [(0, 0)])], [.cells ds] => (match bsetOf ds with | some s => ifp (xs.length ≤ 4000000) (vi (atB xs s.from_)) | none => no)
  | _, _ => no⟩
@[go_sem] def sgIxN (xs : List BSet) (s : BSet) (i : Nat) : Sg := ⟨[(8, vi i), (7, vi xs.length), (0, .one (.isl .bset xs)), (1, .one (.fn 68 [(0, 0)]))], [some (.cells ((ET.bset.cells s).map .val))], []⟩
theorem s_indexNamed_e : EnterOk Tryd.prog 67 := ⟨_, Tryd.func67, rfl, by decide⟩
@[go_sem] def s_indexNamed_lv : List (List Nat) := [[0, 1], [0, 1, 7, 8], [0, 1, 7, 8, 9], [0, 1, 5, 7, 8], [0, 1, 5, 7, 8, 16], [4], [0, 1, 7, 8], [4]]
@[go_sem] noncomputable def s_indexNamed_K : Known := (Known.nil).cons 68 ctNamed s_named s_named_e
set_option maxHeartbeats 8000000 in
theorem s_indexNamed : Sound Tryd.prog 67 ctIndexNamed := by
  have ke := s_indexNamed_K.env []
  have kl : Lives s_indexNamed_lv := trivial
  refine sound_intro (E := ⟨ti, s_indexNamed_K.Γ, []⟩) ke Tryd.func67 Tryd.ntmps67 rfl (rs := [.tmp 4]) rfl ?_
  intro args os hp
  unfold ctIndexNamed at hp ⊢
  dsimp only at hp ⊢
  split at hp
  · rename_i xs ds
    split at hp
    · rename_i s hs
      obtain rfl := bsetOf_some hs
      have hlen : xs.length ≤ 4000000 := hp
      clear hs
      refine ⟨by simp, fun φ0 w0 => ?_⟩
      refine goh trivial ?_
      refine W_le (σ' := sgIxN xs s 0) [some 0] (by
        simp only [go_sem, inj_r, ↓reduceIte, reduceCtorEq, Nat.reduceAdd, Nat.reduceLT, Nat.reduceLeDiff, Nat.reduceEqDiff, Int.reduceEq]
        all_goals (repeat' refine And.intro ?_ ?_) <;> try exact shut7
        ) ?_
      refine W_loop (fun n σ => ∃ i : Nat, i ≤ xs.length ∧ n = xs.length - i ∧ (∀ j, j < i → same (xs.getD j ET.bset.dflt).name s.from_ = false) ∧ σ = sgIxN xs s i) xs.length ⟨0, by omega, by omega, by omega, rfl⟩ ?_
      rintro n σ ⟨i, hi, rfl, hbef, rfl⟩
      unfold sgIxN
      refine goh trivial ?_
      refine W_cnd ?_ ?_ <;> (try simp only [cnd_r]) <;> intro hlt
      · refine goh trivial ?_
        refine W_cond _ (by exact rfl) (by exact trivial) ?_ ?_ <;> intro hl
        · have e : atB xs s.from_ = i := firstAt_some (by omega) hbef hl
          refine goh trivial ?_
          exact finh [some 0] e
        · refine goh trivial ?_
          refine ⟨xs.length - (i + 1), [some 0], sgIxN xs s (i + 1), by omega, ?_, i + 1, by omega, rfl, fun j hj => ?_, rfl⟩
          · exact leh trivial
          · rcases Nat.lt_succ_iff_lt_or_eq.1 hj with h | rfl
            · first | exact hbef j h | exact same_false.1 (hbef j h)
            · first | exact hl | exact same_false.1 hl
      · have e : atB xs s.from_ = -1 := firstAt_none fun j hj => hbef j (by omega)
        refine goh trivial ?_
        exact finh [some 0] e
    · simp [no] at hp
  · simp [no] at hp
@[go_sem] noncomputable def ctLeads : Ct := ⟨false, [[some .bset], []], fun args os => match args, os with
  | [.agg [.isl .bset xs], .agg cs], [] => (match bsetOf cs with | some s => ifp (xs.length ≤ 4000000) (vb (leadsN xs xs.length s)) | none => no)
  | _, _ => no⟩
@[go_sem] def sgLeads (xs : List BSet) (s : BSet) (i : Nat) : Sg := ⟨[(2, .one (.ptr 0 0)), (3, .one (.ptr 1 0)), (8, vi xs.length), (9, vi i)], [some (.cells [.isl .bset xs]), some (.cells ((ET.bset.cells s).map .val))], []⟩
theorem atB_lt (xs : List BSet) (name : ByteArray) : atB xs name < xs.length := by
  unfold atB firstAt
  split
  · rename_i i h
    rw [List.findIdx?_eq_some_iff_getElem] at h
    obtain ⟨hi, -⟩ := h
    omega
  · omega
theorem s_leads_e : EnterOk Tryd.prog 49 := ⟨_, Tryd.func49, rfl, by decide⟩
@[go_sem] def s_leads_lv : List (List Nat) := [[2, 3], [2, 3, 8, 9], [2, 3, 8, 9, 10], [2, 3, 8, 9, 13], [4], [2, 3, 5, 8, 9], [2, 3, 5, 8, 9, 33], [4], [2, 3, 8, 9], [2, 3, 8, 9], [4]]
@[go_sem] noncomputable def s_leads_K : Known := ((Known.nil).cons 67 ctIndexNamed s_indexNamed s_indexNamed_e).cons 68 ctNamed s_named s_named_e
set_option maxHeartbeats 8000000 in
theorem s_leads : Sound Tryd.prog 49 ctLeads := by
  have ke := s_leads_K.env []
  have kl : Lives s_leads_lv := trivial
  refine sound_intro (E := ⟨ti, s_leads_K.Γ, []⟩) ke Tryd.func49 Tryd.ntmps49 rfl (rs := [.tmp 4]) rfl ?_
  intro args os hp
  unfold ctLeads at hp ⊢
  dsimp only at hp ⊢
  split at hp
  · rename_i xs cs
    split at hp
    · rename_i s0 hs0
      obtain rfl := bsetOf_some hs0
      have hlen : xs.length ≤ 4000000 := hp
      clear hs0
      refine ⟨by simp, fun φ0 w0 => ?_⟩
      obtain ⟨R, hR⟩ : ∃ R, leadsN xs xs.length s0 = R := ⟨_, rfl⟩
      refine goh trivial ?_
      refine W_le (σ' := sgLeads xs s0 0) [some 0, some 1] (by
        simp only [go_sem, inj_r, ↓reduceIte, reduceCtorEq, Nat.reduceAdd, Nat.reduceLT, Nat.reduceLeDiff, Nat.reduceEqDiff, Int.reduceEq]
        all_goals (repeat' refine And.intro ?_ ?_) <;> try exact shut7
        ) ?_
      refine W_loop (fun q σ => ∃ (i : Nat) (s : BSet), i ≤ xs.length ∧ q = xs.length - i ∧ leadsN xs (xs.length - i) s = R ∧ σ = sgLeads xs s i) xs.length ⟨0, s0, by omega, by omega, hR, rfl⟩ ?_
      rintro q σ ⟨i, s, hi, rfl, hs, rfl⟩
      unfold sgLeads
      refine goh trivial ?_
      refine W_cnd ?_ ?_ <;> (try simp only [cnd_r]) <;> intro hlt
      · obtain ⟨m, hm⟩ : ∃ m, xs.length - i = m + 1 := ⟨xs.length - i - 1, by omega⟩
        rw [hm] at hs
        unfold leadsN at hs
        refine goh trivial ?_
        refine W_cond _ (by exact rfl) (by exact trivial) ?_ ?_ <;> intro hf
        · rw [if_pos hf] at hs
          have e : leadsN xs xs.length s0 = (s.kind == 1) := by rw [hR, ← hs]
          refine goh trivial ?_
          exact finh [] e
        · rw [if_neg (by rw [hf]; decide)] at hs
          have hl := atB_lt xs s.from_
          repeat' first
            | with_reducible refine red ?_
            | refine W_seq ?_
            | (refine W_reg (s_leads_K.env []) s_leads_lv fun K' hK' => ?_
               simp only [go_sem, ↓reduceIte, ↓reduceDIte, reduceCtorEq, Nat.reduceAdd, Nat.reduceMul, Nat.reduceSub, Nat.reduceDiv, Nat.reduceMod, Nat.reduceLT, Nat.reduceLeDiff, Nat.reduceEqDiff, Nat.reduceBEq, Int.reduceToNat, Int.reduceLE, Int.reduceLT, Int.reduceEq, Int.reduceNe, Int.reduceNeg]
               (repeat' refine And.intro ?_ ?_) <;> try first | with_reducible refine hK' ?_ | exact shut6)
            | with_reducible refine blockG_o (by decide) ?_
          · intro hgd
            have hgd2 : ¬ atB xs s.from_ < 0 := by simpa using hgd
            omega
          refine W_cnd ?_ ?_ <;> (try simp only [cnd_r]) <;> intro hc
          · have e : leadsN xs xs.length s0 = false := by
              rw [hR, ← hs, if_pos]
              rcases hc with h | h
              · exact .inl h
              · exact .inr h
            refine goh trivial ?_
            exact finh [] e
          · obtain ⟨c1, c2⟩ := hc
            have c3 : ¬ (setOf xs s.from_).kind = s.kind := by
              intro h
              rw [beq_eq_false_iff_ne] at c2
              exact c2 h
            rw [if_neg (fun h => h.elim c1 c3)] at hs
            refine goh trivial ?_
            refine ⟨xs.length - (i + 1), [some 0, some 1], sgLeads xs (setOf xs s.from_) (i + 1), by omega, ?_, i + 1, setOf xs s.from_, by omega, rfl, ?_, rfl⟩
            · simp only [go_sem, setOf, inj_r, ↓reduceIte, reduceCtorEq, Nat.reduceAdd, Nat.reduceLT, Nat.reduceLeDiff, Nat.reduceEqDiff, Int.reduceEq]
              all_goals (repeat' refine And.intro ?_ ?_) <;> try exact shut7
            · rw [show xs.length - (i + 1) = m by omega]; exact hs
      · have h0 : xs.length - i = 0 := by omega
        rw [h0] at hs
        have e : leadsN xs xs.length s0 = false := by rw [hR, ← hs]; rfl
        refine goh trivial ?_
        exact finh [] e
    · simp [no] at hp
  · simp [no] at hp
@[go_sem] noncomputable def ctBadSet : Ct := ⟨true, [], fun args os => match args, os with
  | [.agg cs, .one (.ptr 0 0)], [.cells [.isl .bset xs]] => (match bsetOf cs with | some s => ifp (xs.length ≤ 4000000) (vb (!leadsN xs xs.length s)) | none => no)
  | _, _ => no⟩
theorem s_badSet_e : EnterOk Tryd.prog 48 := ⟨_, Tryd.func48, rfl, by decide⟩
@[go_sem] def s_badSet_lv : List (List Nat) := [[1, 2], [3]]
@[go_sem] noncomputable def s_badSet_K : Known := (Known.nil).cons 49 ctLeads s_leads s_leads_e
set_option maxHeartbeats 8000000 in
theorem s_badSet : Sound Tryd.prog 48 ctBadSet := by
  have ke := s_badSet_K.env []
  have kl : Lives s_badSet_lv := trivial
  refine sound_intro (E := ⟨ti, s_badSet_K.Γ, []⟩) ke Tryd.func48 Tryd.ntmps48 rfl (rs := [.tmp 3]) rfl ?_
  intro args os hp
  unfold ctBadSet at hp ⊢
  dsimp only at hp ⊢
  split at hp
  · rename_i cs xs
    split at hp
    · rename_i s hs
      obtain rfl := bsetOf_some hs
      have hlen : xs.length ≤ 4000000 := hp
      clear hs
      refine ⟨by simp, fun φ0 w0 => ?_⟩
      refine goh trivial ?_
      exact finh [some 0] trivial
    · simp [no] at hp
  · simp [no] at hp
@[go_sem] noncomputable def ctIndexBad : Ct := ⟨true, [[some .bset]], fun args os => match args, os with
  | [.one (.isl .bset ys), .one (.fn 48 [(0, 0)])], [.cells [.isl .bset xs]] => ifp (xs.length ≤ 4000000 ∧ ys.length ≤ 4000000) (vi (firstAt (fun s => !leadsN xs xs.length s) ys))
  | _, _ => no⟩
@[go_sem] def sgIxB (xs ys : List BSet) (i : Nat) : Sg := ⟨[(8, vi i), (7, vi ys.length), (0, .one (.isl .bset ys)), (1, .one (.fn 48 [(0, 0)]))], [some (.cells [.isl .bset xs])], []⟩
theorem s_indexBad_e : EnterOk Tryd.prog 67 := ⟨_, Tryd.func67, rfl, by decide⟩
@[go_sem] def s_indexBad_lv : List (List Nat) := [[0, 1], [0, 1, 7, 8], [0, 1, 7, 8, 9], [0, 1, 5, 7, 8], [0, 1, 5, 7, 8, 16], [4], [0, 1, 7, 8], [4]]
@[go_sem] noncomputable def s_indexBad_K : Known := (Known.nil).cons 48 ctBadSet s_badSet s_badSet_e
set_option maxHeartbeats 8000000 in
theorem s_indexBad : Sound Tryd.prog 67 ctIndexBad := by
  have ke := s_indexBad_K.env []
  have kl : Lives s_indexBad_lv := trivial
  refine sound_intro (E := ⟨ti, s_indexBad_K.Γ, []⟩) ke Tryd.func67 Tryd.ntmps67 rfl (rs := [.tmp 4]) rfl ?_
  intro args os hp
  unfold ctIndexBad at hp ⊢
  dsimp only at hp ⊢
  split at hp
  · rename_i ys xs
    refine ⟨by simp, fun φ0 w0 => ?_⟩
    obtain ⟨hx, hlen⟩ : xs.length ≤ 4000000 ∧ ys.length ≤ 4000000 := hp
    refine goh trivial ?_
    refine W_le (σ' := sgIxB xs ys 0) [some 0] (by
      simp only [go_sem, inj_r, ↓reduceIte, reduceCtorEq, Nat.reduceAdd, Nat.reduceLT, Nat.reduceLeDiff, Nat.reduceEqDiff, Int.reduceEq]
      all_goals (repeat' refine And.intro ?_ ?_) <;> try exact shut7
      ) ?_
    refine W_loop (fun n σ => ∃ i : Nat, i ≤ ys.length ∧ n = ys.length - i ∧ (∀ j, j < i → leadsN xs xs.length (ys.getD j ET.bset.dflt) = true) ∧ σ = sgIxB xs ys i) ys.length ⟨0, by omega, by omega, by omega, rfl⟩ ?_
    rintro n σ ⟨i, hi, rfl, hbef, rfl⟩
    unfold sgIxB
    refine goh trivial ?_
    refine W_cnd ?_ ?_ <;> (try simp only [cnd_r]) <;> intro hlt
    · refine goh trivial ?_
      refine W_cond _ (by exact rfl) (by exact trivial) ?_ ?_ <;> intro hl
      · have e : firstAt (fun s => !leadsN xs xs.length s) ys = i := firstAt_some (d := ET.bset.dflt) (by omega) (fun j hj => by show (!leadsN xs xs.length (ys.getD j ET.bset.dflt)) = false; rw [hbef j hj]; rfl) hl
        refine goh trivial ?_
        exact finh [some 0] e
      · have hl2 : leadsN xs xs.length (ys.getD i ET.bset.dflt) = true := by simpa using hl
        refine goh trivial ?_
        refine ⟨ys.length - (i + 1), [some 0], sgIxB xs ys (i + 1), by omega, ?_, i + 1, by omega, rfl, fun j hj => ?_, rfl⟩
        · exact leh trivial
        · rcases Nat.lt_succ_iff_lt_or_eq.1 hj with h | rfl
          · exact hbef j h
          · exact hl2
    · have e : firstAt (fun s => !leadsN xs xs.length s) ys = -1 := firstAt_none (d := ET.bset.dflt) fun j hj => by show (!leadsN xs xs.length (ys.getD j ET.bset.dflt)) = false; rw [hbef j (by omega)]; rfl
      refine goh trivial ?_
      exact finh [some 0] e
  · simp [no, ifp] at hp
@[go_sem] noncomputable def ctHasBad : Ct := ⟨true, [[some .bset]], fun args os => match args, os with
  | [.one (.isl .bset ys), .one (.fn 48 [(0, 0)])], [.cells [.isl .bset xs]] => ifp (xs.length ≤ 4000000 ∧ ys.length ≤ 4000000) (vb (ys.any (fun s => !leadsN xs xs.length s)))
  | _, _ => no⟩
theorem s_hasBad_e : EnterOk Tryd.prog 47 := ⟨_, Tryd.func47, rfl, by decide⟩
@[go_sem] def s_hasBad_lv : List (List Nat) := [[0, 1], [4]]
@[go_sem] noncomputable def s_hasBad_K : Known := (Known.nil).cons 67 ctIndexBad s_indexBad s_indexBad_e
set_option maxHeartbeats 8000000 in
theorem s_hasBad : Sound Tryd.prog 47 ctHasBad := by
  have ke := s_hasBad_K.env []
  have kl : Lives s_hasBad_lv := trivial
  refine sound_intro (E := ⟨ti, s_hasBad_K.Γ, []⟩) ke Tryd.func47 Tryd.ntmps47 rfl (rs := [.tmp 4]) rfl ?_
  intro args os hp
  unfold ctHasBad at hp ⊢
  dsimp only at hp ⊢
  split at hp
  · rename_i ys xs
    refine ⟨by simp, fun φ0 w0 => ?_⟩
    obtain ⟨hx, hlen⟩ : xs.length ≤ 4000000 ∧ ys.length ≤ 4000000 := hp
    refine goh trivial ?_
    refine ⟨by (simp only [go_sem, ↓reduceIte, reduceCtorEq, Nat.reduceAdd, Nat.reduceLT, Nat.reduceLeDiff, Nat.reduceEqDiff]) <;> trivial, [some 0], ?_⟩
    all_goals try simp only [go_sem, inj_r, ↓reduceIte, reduceCtorEq, Nat.reduceAdd, Nat.reduceLT, Nat.reduceLeDiff, Nat.reduceEqDiff, Int.reduceEq]
    all_goals (repeat' refine And.intro ?_ ?_) <;> try exact shut7
    exact firstAt_ge _ _
  · simp [no, ifp] at hp
@[go_sem] noncomputable def ctBookOk : Ct := ⟨false, [[some .bset]], fun args os => match args, os with
  | [.agg [.isl .bset xs]], [] => ifp (xs.length ≤ 4000000 ∧ ∀ i : Nat, (xs.getD i ET.bset.dflt).name.size ≤ 9223372036854775807) (vb (bookB xs))
  | _, _ => no⟩
@[go_sem] def sgBookOk (xs : List BSet) (i : Nat) : Sg := ⟨[(1, .one (.ptr 0 0)), (10, .one (.isl .bset xs)), (11, vi xs.length), (12, vi i)], [some (.cells [.isl .bset xs])], []⟩
theorem s_bookOk_e : EnterOk Tryd.prog 19 := ⟨_, Tryd.func19, rfl, by decide⟩
@[go_sem] def s_bookOk_lv : List (List Nat) := [[1], [1, 8], [2], [1, 10, 11, 12], [1, 10, 11, 12, 13], [1, 3, 4, 10, 11, 12], [1, 10, 11, 12, 51], [2], [1, 10, 11, 12], [2]]
@[go_sem] noncomputable def s_bookOk_K : Known := (((((Known.nil).cons 44 ctName s_bookName s_bookName_e).cons 45 ctHas24 s_has24 s_has24_e).cons 46 ctLong24 s_long24 s_long24_e).cons 47 ctHasBad s_hasBad s_hasBad_e).cons 48 ctBadSet s_badSet s_badSet_e
set_option maxHeartbeats 8000000 in
theorem s_bookOk : Sound Tryd.prog 19 ctBookOk := by
  have ke := s_bookOk_K.env []
  have kl : Lives s_bookOk_lv := trivial
  refine sound_intro (E := ⟨ti, s_bookOk_K.Γ, []⟩) ke Tryd.func19 Tryd.ntmps19 rfl (rs := [.tmp 2]) rfl ?_
  intro args os hp
  unfold ctBookOk at hp ⊢
  dsimp only at hp ⊢
  split at hp
  · rename_i xs
    refine ⟨by simp, fun φ0 w0 => ?_⟩
    obtain ⟨hlen, hsz⟩ : xs.length ≤ 4000000 ∧ ∀ i : Nat, (xs.getD i ET.bset.dflt).name.size ≤ 9223372036854775807 := hp
    refine goh trivial ?_
    refine W_cnd ?_ ?_ <;> (try simp only [cnd_r]) <;> intro hc
    · have e : bookB xs = false := bookB_false.2 fun h => by have := h.few; omega
      refine goh trivial ?_
      exact finh [] e
    · refine goh trivial ?_
      refine W_le (σ' := sgBookOk xs 0) [some 0] (by
        simp only [go_sem, inj_r, ↓reduceIte, reduceCtorEq, Nat.reduceAdd, Nat.reduceLT, Nat.reduceLeDiff, Nat.reduceEqDiff, Int.reduceEq]
        all_goals (repeat' refine And.intro ?_ ?_) <;> try exact shut7
        ) ?_
      refine W_loop (fun q σ => ∃ i : Nat, i ≤ xs.length ∧ q = xs.length - i ∧ (∀ j, j < i → SetOk xs j) ∧ σ = sgBookOk xs i) xs.length ⟨0, by omega, by omega, by omega, rfl⟩ ?_
      rintro q σ ⟨i, hi, rfl, hbef, rfl⟩
      unfold sgBookOk
      refine goh trivial ?_
      refine W_cnd ?_ ?_ <;> (try simp only [cnd_r]) <;> intro hlt
      · have hsz1 := hsz i
        have w1 : IntKind.i64.wrap ((i : Int) - 1) = (i : Int) - 1 := wrap_id _ (by omega) (by omega)
        have ht : ((i : Int) - 1).toNat = i - 1 := by omega
        refine goh (And.intro w1 ht) ?_
        refine W_cond _ (by exact rfl) (by exact trivial) ?_ ?_ <;> intro hb
        · have e : bookB xs = false := bookB_false.2 fun h => by
            obtain ⟨h1, h2, h3, h4⟩ := h.each i (by omega)
            unfold lessB at h2
            unfold big8 at h4
            simp only [List.any_cons, List.any_nil, Bool.or_false] at h4
            have hx := (bad_expr _ _ _ _ _ _).2 ⟨h1, fun hp : (i : Int) > 0 => h2 (by omega), (show ((xs.getD i ET.bset.dflt).kind != 1) = false ∨ ((xs.getD i ET.bset.dflt).kind != 2) = false from h3.elim (fun h => .inl (by rw [h]; rfl)) (fun h => .inr (by rw [h]; rfl))), h4⟩
            rw [hx] at hb
            cases hb
          refine goh trivial ?_
          exact finh [] e
        · obtain ⟨h1, h2, h3, h4⟩ := (bad_expr _ _ _ _ _ _).1 hb
          have h3' : (xs.getD i ET.bset.dflt).kind = 1 ∨ (xs.getD i ET.bset.dflt).kind = 2 := by
            rcases h3 with h | h
            · exact .inl (by simpa only [bne_eq_false_iff_eq] using h)
            · exact .inr (by simpa only [bne_eq_false_iff_eq] using h)
          have h4' : big8 (xs.getD i ET.bset.dflt) = false := by
            unfold big8
            simp only [List.any_cons, List.any_nil, Bool.or_false]
            exact h4
          have hs : SetOk xs i := ⟨h1, fun hp => h2 (by omega), h3', h4'⟩
          refine goh trivial ?_
          refine ⟨xs.length - (i + 1), [some 0], sgBookOk xs (i + 1), by omega, ?_, i + 1, by omega, rfl, fun j hj => ?_, rfl⟩
          · exact leh trivial
          · rcases Nat.lt_succ_iff_lt_or_eq.1 hj with h | rfl
            · exact hbef j h
            · exact hs
      · have e : bookB xs = !xs.any (fun s => !leadsN xs xs.length s) := by
          cases ha : xs.any (fun s => !leadsN xs xs.length s) with
          | false => exact bookB_true.2 ⟨by omega, fun i hi => hbef i (by omega), ha⟩
          | true => exact bookB_false.2 fun h => by rw [h.leads] at ha; cases ha
        refine goh trivial ?_
        exact finh [] e
  · simp [no, ifp] at hp
end Go.Proofs.YtjedcphhajlnoaaDoor
/- Functions: valid books, the reference's. -/
namespace Go.Proofs.YtjedcphhajlnoaaDoor
open Go.RowKit

@[go_sem] noncomputable def ctAt : Ct := ⟨false, [[some .bset]], fun args os => match args, os with
  | [.agg [.isl .bset xs], .one (.val (.string name))], [] => ifp (xs.length ≤ 4000000) (.tup [vi (lowN xs name), vb (thereB xs name)])
  | _, _ => no⟩
@[go_sem] def sgAt (xs : List BSet) (name : ByteArray) (k : Nat) : Sg := ⟨[(1, vs name), (2, .one (.ptr 0 0)), (6, vi k)], [some (.cells [.isl .bset xs])], []⟩
theorem s_l4At_e : EnterOk Tryd.prog 22 := ⟨_, Tryd.func22, rfl, by decide⟩
@[go_sem] def s_l4At_lv : List (List Nat) := [[1, 2], [1, 2, 6], [1, 2, 6, 21], [1, 2, 6], [4, 5]]
@[go_sem] noncomputable def s_l4At_K : Known := Known.nil
set_option maxHeartbeats 8000000 in
theorem s_l4At : Sound Tryd.prog 22 ctAt := by
  have ke := s_l4At_K.env []
  have kl : Lives s_l4At_lv := trivial
  refine sound_intro (E := ⟨ti, s_l4At_K.Γ, []⟩) ke Tryd.func22 Tryd.ntmps22 rfl (rs := [.tmp 4, .tmp 5]) rfl ?_
  intro args os hp
  unfold ctAt at hp ⊢
  dsimp only at hp ⊢
  split at hp
  · rename_i xs name
    refine ⟨by simp, fun φ0 w0 => ?_⟩
    have hlen : xs.length ≤ 4000000 := hp
    refine goh trivial ?_
    refine W_le (σ' := sgAt xs name 0) [some 0] (by
      simp only [go_sem, inj_r, ↓reduceIte, reduceCtorEq, Nat.reduceAdd, Nat.reduceLT, Nat.reduceLeDiff, Nat.reduceEqDiff, Int.reduceEq]
      all_goals (repeat' refine And.intro ?_ ?_) <;> try exact shut7
      ) ?_
    refine W_loop (fun q σ => ∃ k : Nat, k ≤ xs.length ∧ q = xs.length - k ∧ (∀ j, j < k → lessB (xs.getD j ET.bset.dflt).name name = true) ∧ σ = sgAt xs name k) xs.length ⟨0, by omega, by omega, by omega, rfl⟩ ?_
    rintro q σ ⟨k, hk, rfl, hbef, rfl⟩
    unfold sgAt
    refine goh trivial ?_
    refine W_cond _ (by exact rfl) (by exact trivial) ?_ ?_ <;> intro hc
    · have hc2 : k < xs.length ∧ lessB (xs.getD k ET.bset.dflt).name name = true := by
        unfold lessB
        simpa using hc
      refine goh trivial ?_
      refine ⟨xs.length - (k + 1), [some 0], sgAt xs name (k + 1), by omega, ?_, k + 1, by omega, rfl, fun j hj => ?_, rfl⟩
      · exact leh trivial
      · rcases Nat.lt_succ_iff_lt_or_eq.1 hj with h | rfl
        · exact hbef j h
        · exact hc2.2
    · have hs : k = xs.length ∨ lessB (xs.getD k ET.bset.dflt).name name = false := by
        by_cases h : k < xs.length
        · right
          unfold lessB
          have h2 : (k : Int) < xs.length := by omega
          simpa [h2] using hc
        · left; omega
      have e := lowN_eq hk hbef hs
      refine goh trivial ?_
      refine ⟨by (simp only [go_sem, e, ↓reduceIte, reduceCtorEq, Nat.reduceAdd, Nat.reduceLT, Nat.reduceLeDiff, Nat.reduceEqDiff]) <;> trivial, [], ?_⟩
      all_goals try simp only [go_sem, e, inj_r, ↓reduceIte, reduceCtorEq, Nat.reduceAdd, Nat.reduceLT, Nat.reduceLeDiff, Nat.reduceEqDiff, Int.reduceEq]
      all_goals (repeat' refine And.intro ?_ ?_) <;> try exact shut7
      unfold thereB
      rw [e]
      by_cases h : (k : Int) < xs.length
      · rw [if_pos h, decide_eq_true (show k < xs.length by omega), Bool.true_and]
      · rw [if_neg h, decide_eq_false (show ¬ k < xs.length by omega), Bool.false_and]
  · simp [no, ifp] at hp
@[go_sem] noncomputable def ctRoots : Ct := ⟨false, [[some .bset], []], fun args os => match args, os with
  | [.agg [.isl .bset xs], .agg cs], [] => (match bsetOf cs with | some s => ifp (xs.length ≤ 4000000 ∧ Sorted xs) (vb (leadsN xs (xs.length + 1) s)) | none => no)
  | _, _ => no⟩
@[go_sem] def sgRoots (xs : List BSet) (s : BSet) (i : Nat) : Sg := ⟨[(2, .one (.ptr 0 0)), (3, .one (.ptr 1 0)), (5, vi i)], [some (.cells [.isl .bset xs]), some (.cells ((ET.bset.cells s).map .val))], []⟩
theorem s_roots_e : EnterOk Tryd.prog 26 := ⟨_, Tryd.func26, rfl, by decide⟩
@[go_sem] def s_roots_lv : List (List Nat) := [[2, 3], [2, 3, 5], [2, 3, 5, 12], [2, 3, 5], [2, 3, 5, 17], [4], [2, 3, 5, 6, 7], [2, 3, 5, 6, 40], [4], [2, 3, 5], [4]]
@[go_sem] noncomputable def s_roots_K : Known := (Known.nil).cons 22 ctAt s_l4At s_l4At_e
set_option maxHeartbeats 8000000 in
theorem s_roots : Sound Tryd.prog 26 ctRoots := by
  have ke := s_roots_K.env []
  have kl : Lives s_roots_lv := trivial
  refine sound_intro (E := ⟨ti, s_roots_K.Γ, []⟩) ke Tryd.func26 Tryd.ntmps26 rfl (rs := [.tmp 4]) rfl ?_
  intro args os hp
  unfold ctRoots at hp ⊢
  dsimp only at hp ⊢
  split at hp
  · rename_i xs cs
    split at hp
    · rename_i s0 hs0
      obtain rfl := bsetOf_some hs0
      obtain ⟨hlen, hso⟩ : xs.length ≤ 4000000 ∧ Sorted xs := hp
      clear hs0
      refine ⟨by simp, fun φ0 w0 => ?_⟩
      obtain ⟨R, hR⟩ : ∃ R, leadsN xs (xs.length + 1) s0 = R := ⟨_, rfl⟩
      refine goh trivial ?_
      refine W_le (σ' := sgRoots xs s0 0) [some 0, some 1] (by
        simp only [go_sem, inj_r, ↓reduceIte, reduceCtorEq, Nat.reduceAdd, Nat.reduceLT, Nat.reduceLeDiff, Nat.reduceEqDiff, Int.reduceEq]
        all_goals (repeat' refine And.intro ?_ ?_) <;> try exact shut7
        ) ?_
      refine W_loop (fun q σ => ∃ (i : Nat) (s : BSet), i ≤ xs.length + 1 ∧ q = xs.length + 1 - i ∧ leadsN xs (xs.length + 1 - i) s = R ∧ σ = sgRoots xs s i) (xs.length + 1) ⟨0, s0, by omega, by omega, hR, rfl⟩ ?_
      rintro q σ ⟨i, s, hi, rfl, hs, rfl⟩
      unfold sgRoots
      refine goh trivial ?_
      refine W_cnd ?_ ?_ <;> (try simp only [cnd_r]) <;> intro hlt
      · obtain ⟨m, hm⟩ : ∃ m, xs.length + 1 - i = m + 1 := ⟨xs.length - i, by omega⟩
        rw [hm] at hs
        unfold leadsN at hs
        refine goh trivial ?_
        refine W_cond _ (by exact rfl) (by exact trivial) ?_ ?_ <;> intro hf
        · rw [if_pos hf] at hs
          have e : leadsN xs (xs.length + 1) s0 = (s.kind == 1) := by rw [hR, ← hs]
          refine goh trivial ?_
          exact finh [] e
        · rw [if_neg (by rw [hf]; decide)] at hs
          obtain ⟨a1, a2⟩ := at_low hso s.from_
          cases ht : thereB xs s.from_ with
          | false =>
            have e : leadsN xs (xs.length + 1) s0 = false := by rw [hR, ← hs, if_pos (.inl (a2 ht))]
            repeat' first
              | with_reducible refine red ?_
              | refine W_seq ?_
              | (refine W_reg (s_roots_K.env []) s_roots_lv fun K' hK' => ?_
                 simp only [go_sem, ht, Bool.not_false, Bool.not_true, Bool.false_eq_true, ↓reduceIte, ↓reduceDIte, reduceCtorEq, Nat.reduceAdd, Nat.reduceMul, Nat.reduceSub, Nat.reduceDiv, Nat.reduceMod, Nat.reduceLT, Nat.reduceLeDiff, Nat.reduceEqDiff, Nat.reduceBEq, Int.reduceToNat, Int.reduceLE, Int.reduceLT, Int.reduceEq, Int.reduceNe, Int.reduceNeg]
                 (repeat' refine And.intro ?_ ?_) <;> try first | with_reducible refine hK' ?_ | exact shut6)
              | with_reducible refine blockG_o (by decide) ?_
            all_goals try (intro hgd; cases hgd; done)
            refine W_cnd ?_ ?_ <;> intro hlit <;> try (cases hlit; done)
            refine goh trivial ?_
            exact finh [] e
          | true =>
            have hat := a1 ht
            have hlow : lowN xs s.from_ < xs.length := by
              unfold thereB at ht
              rw [Bool.and_eq_true, decide_eq_true_eq] at ht
              exact ht.1
            have hset : setOf xs s.from_ = xs.getD (lowN xs s.from_) ET.bset.dflt := by unfold setOf; rw [hat]; rfl
            rw [hat, hset] at hs
            refine goh ht ?_
            refine W_cnd ?_ ?_ <;> (try simp only [cnd_r]) <;> intro hc
            · have e : leadsN xs (xs.length + 1) s0 = false := by rw [hR, ← hs, if_pos (.inr hc)]
              refine goh trivial ?_
              exact finh [] e
            · have hc2 : ¬ (xs.getD (lowN xs s.from_) ET.bset.dflt).kind = s.kind := by
                first | exact hc | (rw [beq_eq_false_iff_ne] at hc; exact hc)
              rw [if_neg (fun h => h.elim (by omega) hc2)] at hs
              refine goh trivial ?_
              refine ⟨xs.length + 1 - (i + 1), [some 0, some 1], sgRoots xs (xs.getD (lowN xs s.from_) ET.bset.dflt) (i + 1), by omega, ?_, i + 1, _, by omega, rfl, ?_, rfl⟩
              · exact leh trivial
              · rw [show xs.length + 1 - (i + 1) = m by omega]; exact hs
      · have h0 : xs.length + 1 - i = 0 := by omega
        rw [h0] at hs
        have e : leadsN xs (xs.length + 1) s0 = false := by rw [hR, ← hs]; rfl
        refine goh trivial ?_
        exact finh [] e
    · simp [no] at hp
  · simp [no] at hp
end Go.Proofs.YtjedcphhajlnoaaDoor
/- Functions: valid books, the reference's, on. -/
namespace Go.Proofs.YtjedcphhajlnoaaDoor
open Go.RowKit

def blk8 (x : BSet) : List ByteArray := [x.blocks.x0, x.blocks.x1, x.blocks.x2, x.blocks.x3, x.blocks.x4, x.blocks.x5, x.blocks.x6, x.blocks.x7]
@[go_sem] def sgSb (xs : List BSet) (i : Nat) : Sg := ⟨[(1, .one (.ptr 0 0)), (3, vi i)], [some (.cells [.isl .bset xs])], []⟩
@[go_sem] def sgSj (xs : List BSet) (s : BSet) (i j : Nat) : Sg := ⟨[(1, .one (.ptr 0 0)), (3, vi i), (4, .one (.ptr 1 0)), (5, vi j)], [some (.cells [.isl .bset xs]), some (.cells ((ET.bset.cells s).map .val))], []⟩
@[go_sem] def sgSr2 (xs : List BSet) (i : Nat) : Sg := ⟨[(1, .one (.ptr 0 0)), (6, vi i)], [some (.cells [.isl .bset xs])], []⟩
theorem bad2 (A B G1 G2 : Bool) (P : Prop) [Decidable P] : (if (if (if (!A) = true then true else if P then B else false) = true then true else G1) = true then true else G2) = false ↔ A = true ∧ (P → B = false) ∧ G1 = false ∧ G2 = false := by
  by_cases h : P <;> cases A <;> cases B <;> cases G1 <;> cases G2 <;> simp [h]
theorem less_or (s p : ByteArray) : (Op.bytesLess s.toList p.toList || same s p) = false ↔ lessB p s = true := by
  rw [Bool.or_eq_false_iff, same_false]
  constructor
  · rintro ⟨h1, h2⟩
    rcases less_total s p with h | h | h
    · unfold lessB at h; rw [h] at h1; cases h1
    · exact absurd h h2
    · exact h
  · intro h
    refine ⟨?_, fun he => ?_⟩
    · rw [← Bool.not_eq_true]
      intro h2
      have := less_trans h h2
      rw [less_irrefl] at this; cases this
    · rw [he, less_irrefl] at h; cases h
theorem sorted_of {xs : List BSet} (h : ∀ j, j < xs.length → SetOk xs j) : Sorted xs := ⟨fun i h0 hi => (h i hi).less h0⟩
theorem s_specBookOk_e : EnterOk Tryd.prog 12 := ⟨_, Tryd.func12, rfl, by decide⟩
@[go_sem] def s_specBookOk_lv : List (List Nat) := [[1], [1, 10], [2], [1, 3], [1, 3, 15], [1, 3], [1, 3, 4], [1, 3, 4, 52], [2], [1, 3, 4, 5], [1, 3, 4, 5, 54], [1, 3, 4, 5], [1, 3, 4, 5, 62], [2], [1, 6], [1, 6, 67], [1, 6], [1, 6, 77], [2], [2]]
@[go_sem] noncomputable def s_specBookOk_K : Known := ((Known.nil).cons 25 ctName s_specName s_specName_e).cons 26 ctRoots s_roots s_roots_e
set_option maxHeartbeats 8000000 in
theorem s_specBookOk : Sound Tryd.prog 12 ctBookOk := by
  have ke := s_specBookOk_K.env []
  have kl : Lives s_specBookOk_lv := trivial
  refine sound_intro (E := ⟨ti, s_specBookOk_K.Γ, []⟩) ke Tryd.func12 Tryd.ntmps12 rfl (rs := [.tmp 2]) rfl ?_
  intro args os hp
  unfold ctBookOk at hp ⊢
  dsimp only at hp ⊢
  split at hp
  · rename_i xs
    refine ⟨by simp, fun φ0 w0 => ?_⟩
    obtain ⟨hlen, hsz⟩ : xs.length ≤ 4000000 ∧ ∀ i : Nat, (xs.getD i ET.bset.dflt).name.size ≤ 9223372036854775807 := hp
    refine goh trivial ?_
    refine W_cnd ?_ ?_ <;> (try simp only [cnd_r]) <;> intro hc
    · have e : bookB xs = false := bookB_false.2 fun h => by have := h.few; omega
      refine goh trivial ?_
      exact finh [] e
    · refine goh trivial ?_
      refine W_le (σ' := sgSb xs 0) [some 0] (by
        simp only [go_sem, inj_r, ↓reduceIte, reduceCtorEq, Nat.reduceAdd, Nat.reduceLT, Nat.reduceLeDiff, Nat.reduceEqDiff, Int.reduceEq]
        all_goals (repeat' refine And.intro ?_ ?_) <;> try exact shut7
        ) ?_
      refine W_loop (fun q σ => ∃ i : Nat, i ≤ xs.length ∧ q = xs.length - i ∧ (∀ j, j < i → SetOk xs j) ∧ σ = sgSb xs i) xs.length ⟨0, by omega, by omega, by omega, rfl⟩ ?_
      rintro q σ ⟨i, hi, rfl, hbef, rfl⟩
      unfold sgSb
      refine goh trivial ?_
      refine W_cnd ?_ ?_ <;> (try simp only [cnd_r]) <;> intro hlt
      · have hsz1 := hsz i
        have w1 : IntKind.i64.wrap ((i : Int) - 1) = (i : Int) - 1 := wrap_id _ (by omega) (by omega)
        have ht : ((i : Int) - 1).toNat = i - 1 := by omega
        refine goh (And.intro w1 ht) ?_
        refine W_cond _ (by exact rfl) (by exact trivial) ?_ ?_ <;> intro hb
        · have e : bookB xs = false := bookB_false.2 fun h => by
            obtain ⟨h1, h2, h3, -⟩ := h.each i (by omega)
            have hx := (bad2 _ _ _ _ _).2 ⟨h1, fun hp : (i : Int) > 0 => (less_or _ _).2 (h2 (by omega)), (show decide ((xs.getD i ET.bset.dflt).kind < 1) = false by rw [decide_eq_false_iff_not]; omega), (show decide ((xs.getD i ET.bset.dflt).kind > 2) = false by rw [decide_eq_false_iff_not]; omega)⟩
            rw [hx] at hb
            cases hb
          refine goh trivial ?_
          exact finh [] e
        · obtain ⟨h1, h2, h3, h4⟩ := (bad2 _ _ _ _ _).1 hb
          rw [decide_eq_false_iff_not] at h3 h4
          obtain ⟨s, hs⟩ : ∃ s, xs.getD i ET.bset.dflt = s := ⟨_, rfl⟩
          refine goh trivial ?_
          refine W_le (σ' := sgSj xs (xs.getD i ET.bset.dflt) i 0) [some 0, some 1] (by
            simp only [go_sem, inj_r, ↓reduceIte, reduceCtorEq, Nat.reduceAdd, Nat.reduceLT, Nat.reduceLeDiff, Nat.reduceEqDiff, Int.reduceEq]
            all_goals (repeat' refine And.intro ?_ ?_) <;> try exact shut7
            ) ?_
          rw [hs] at h1 h2 h3 h4 ⊢
          refine W_loop (fun q σ => ∃ j : Nat, j ≤ 8 ∧ q = 8 - j ∧ ((blk8 s).take j).any long24 = false ∧ σ = sgSj xs s i j) 8 ⟨0, by omega, by omega, rfl, rfl⟩ ?_
          rintro q σ ⟨j, hj, rfl, hbl, rfl⟩
          unfold sgSj
          rcases (show j < 8 ∨ j = 8 by omega) with hj8 | hc8
          · rcases (show j = 0 ∨ j = 1 ∨ j = 2 ∨ j = 3 ∨ j = 4 ∨ j = 5 ∨ j = 6 ∨ j = 7 by omega) with hc8 | hc8 | hc8 | hc8 | hc8 | hc8 | hc8 | hc8
            all_goals
              refine goh hc8 ?_
              refine W_cnd ?_ ?_ <;> intro hlit <;> try (cases hlit; done)
              refine goh hc8 ?_
              refine W_cnd ?_ ?_ <;> (try simp only [cnd_r]) <;> intro hl
              · have hbig : big8 s = true := by
                  unfold big8
                  simp only [List.any_cons, List.any_nil, Bool.or_false, Bool.or_eq_true, long24, decide_eq_true_eq]
                  omega
                have e : bookB xs = false := bookB_false.2 fun h => by
                  have h5 := (h.each i (by omega)).small
                  rw [hs, hbig] at h5; cases h5
                refine goh trivial ?_
                exact finh [] e
              · refine goh hc8 ?_
                refine ⟨8 - (j + 1), [some 0, some 1], sgSj xs s i (j + 1), by omega, ?_, j + 1, by omega, rfl, ?_, rfl⟩
                · exact leh hc8
                · rw [hc8] at hbl ⊢
                  simp only [blk8, List.take_succ_cons, List.take_zero, List.any_cons, List.any_nil, Bool.or_false, Bool.or_eq_false_iff, long24, decide_eq_false_iff_not] at hbl ⊢
                  omega
          · rw [hc8] at hbl
            have hsm : big8 s = false := hbl
            have hset : SetOk xs i := ⟨by rw [hs]; exact h1, fun hp => by rw [hs]; exact (less_or _ _).1 (h2 (by omega)), by rw [hs]; omega, by rw [hs]; exact hsm⟩
            refine goh hc8 ?_
            refine W_cnd ?_ ?_ <;> intro hlit <;> try (cases hlit; done)
            refine goh trivial ?_
            refine ⟨xs.length - (i + 1), [some 0], sgSb xs (i + 1), by omega, ?_, i + 1, by omega, rfl, fun j hj => ?_, rfl⟩
            · exact leh trivial
            · rcases Nat.lt_succ_iff_lt_or_eq.1 hj with h | rfl
              · exact hbef j h
              · exact hset
      · refine goh trivial ?_
        refine W_le (σ' := sgSr2 xs 0) [some 0] (by
          simp only [go_sem, inj_r, ↓reduceIte, reduceCtorEq, Nat.reduceAdd, Nat.reduceLT, Nat.reduceLeDiff, Nat.reduceEqDiff, Int.reduceEq]
          all_goals (repeat' refine And.intro ?_ ?_) <;> try exact shut7
          ) ?_
        have hall : ∀ j, j < xs.length → SetOk xs j := fun j hj => hbef j (by omega)
        have hso := sorted_of hall
        refine W_loop (fun q σ => ∃ i : Nat, i ≤ xs.length ∧ q = xs.length - i ∧ (∀ j, j < i → leadsN xs xs.length (xs.getD j ET.bset.dflt) = true) ∧ σ = sgSr2 xs i) xs.length ⟨0, by omega, by omega, by omega, rfl⟩ ?_
        clear hbef hlt hi
        clear i
        rintro q σ ⟨i, hi, rfl, hbef, rfl⟩
        unfold sgSr2
        refine goh trivial ?_
        refine W_cnd ?_ ?_ <;> (try simp only [cnd_r]) <;> intro hlt
        · have hm := leads_more xs i (by omega)
          refine goh hm ?_
          refine W_cond _ (by exact rfl) (by exact trivial) ?_ ?_ <;> intro hl
          · have e : bookB xs = false := bookB_false.2 fun h => by
              have h1 := h.leads
              rw [List.any_eq_false] at h1
              have h2 := h1 (xs.getD i ET.bset.dflt) (by simp [show i < xs.length by omega])
              simp only [Bool.not_eq_true', Bool.not_eq_false] at h2 hl
              rw [hl] at h2
              simp at h2
            refine goh trivial ?_
            exact finh [] e
          · have hl2 : leadsN xs xs.length (xs.getD i ET.bset.dflt) = true := by simpa only [Bool.not_eq_false'] using hl
            refine goh trivial ?_
            refine ⟨xs.length - (i + 1), [some 0], sgSr2 xs (i + 1), by omega, ?_, i + 1, by omega, rfl, fun j hj => ?_, rfl⟩
            · exact leh trivial
            · rcases Nat.lt_succ_iff_lt_or_eq.1 hj with h | rfl
              · exact hbef j h
              · exact hl2
        · have e : bookB xs = true := bookB_true.2 ⟨by omega, hall, by
            rw [List.any_eq_false]
            intro s hs
            obtain ⟨j, hj, rfl⟩ := List.getElem_of_mem hs
            have h1 := hbef j (by omega)
            rw [show xs.getD j ET.bset.dflt = xs[j] by simp [hj]] at h1
            rw [h1]; decide⟩
          refine goh trivial ?_
          exact finh [] e
  · simp [no, ifp] at hp
end Go.Proofs.YtjedcphhajlnoaaDoor
/- Functions: a call done on a book, the reference's. -/
namespace Go.Proofs.YtjedcphhajlnoaaDoor
open Go.RowKit

/-- What a call leaves: the sets, what is answered, and whether they lie in new memory. -/
structure DoR where
  xs : List BSet
  c : Int
  f : Bool
@[go_sem] def doV (p : Prop) (r : DoR) : St := ⟨p, .tup [.agg [.osl .bset (if r.f = true then 1 else 0) 0 r.xs.length], vi r.c], (if r.f = true then [(0, none)] else [(0, some (.arr .bset r.xs))]), (if r.f = true then [.arr .bset r.xs] else [])⟩
noncomputable def newX (xs : List BSet) (s : BSet) : DoR :=
  if nameB s.name = false then ⟨xs, 5, false⟩ else if thereB xs s.name = true then ⟨xs, 2, false⟩ else if xs.length = 6 then ⟨xs, 4, false⟩ else ⟨xs.take (lowN xs s.name) ++ [s] ++ xs.drop (lowN xs s.name), 0, true⟩
@[go_sem] noncomputable def ctNew : Ct := ⟨true, [], fun args os => match args, os with
  | [.agg [.osl .bset 0 0 n], .agg cs], [.arr .bset xs] => (match bsetOf cs with | some s => doV (n = xs.length ∧ xs.length ≤ 100 ∧ s.name.size ≤ 1000) (newX xs s) | none => no)
  | _, _ => no⟩
theorem s_new_e : EnterOk Tryd.prog 89 := ⟨_, Tryd.func89, rfl, by decide⟩
@[go_sem] def s_new_lv : List (List Nat) := [[2, 3, 4], [2, 3, 4, 6, 7], [2, 3, 4, 6, 7, 16], [4, 5], [2, 3, 4, 6, 22], [4, 5], [2, 3, 4, 6, 25], [4, 5], [2, 3, 4, 6, 8], [2, 4], [4, 5]]
@[go_sem] noncomputable def s_new_K : Known := ((Known.nil).cons 22 ctAt s_l4At s_l4At_e).cons 25 ctName s_specName s_specName_e
set_option maxHeartbeats 8000000 in
theorem s_new : Sound Tryd.prog 89 ctNew := by
  have ke := s_new_K.env []
  have kl : Lives s_new_lv := trivial
  refine sound_intro (E := ⟨ti, s_new_K.Γ, []⟩) ke Tryd.func89 Tryd.ntmps89 rfl (rs := [.cell 4 25, .tmp 5]) rfl ?_
  intro args os hp
  unfold ctNew at hp ⊢
  dsimp only at hp ⊢
  split at hp
  · rename_i n cs xs
    split at hp
    · rename_i s hs
      obtain rfl := bsetOf_some hs
      obtain ⟨rfl, h1, h2⟩ : n = xs.length ∧ xs.length ≤ 100 ∧ s.name.size ≤ 1000 := hp
      clear hs
      refine ⟨by simp, fun φ0 w0 => ?_⟩
      have hlow := lowN_le xs s.name
      refine goh trivial ?_
      refine W_cnd ?_ ?_ <;> (try simp only [cnd_r]) <;> intro hn
      · have e : newX xs s = ⟨xs, 5, false⟩ := by unfold newX; rw [if_pos hn]
        refine goh trivial ?_
        exact finh [some 0] e
      · have e1 : ¬ nameB s.name = false := by rw [hn]; decide
        refine goh trivial ?_
        refine W_cnd ?_ ?_ <;> (try simp only [cnd_r]) <;> intro ht
        · have e : newX xs s = ⟨xs, 2, false⟩ := by unfold newX; rw [if_neg e1, if_pos ht]
          refine goh trivial ?_
          exact finh [some 0] e
        · have e2 : ¬ thereB xs s.name = true := by rw [ht]; decide
          refine goh trivial ?_
          refine W_cnd ?_ ?_ <;> (try simp only [cnd_r]) <;> intro h6
          · have h6' : xs.length = 6 := by omega
            have e : newX xs s = ⟨xs, 4, false⟩ := by unfold newX; rw [if_neg e1, if_neg e2, if_pos h6']
            refine goh trivial ?_
            exact finh [some 0] e
          · have h6' : ¬ xs.length = 6 := by simp only [beq_eq_false_iff_ne, ne_eq] at h6; omega
            have e : newX xs s = ⟨xs.take (lowN xs s.name) ++ [s] ++ xs.drop (lowN xs s.name), 0, true⟩ := by unfold newX; rw [if_neg e1, if_neg e2, if_neg h6']
            have hA : lowN xs s.name + (xs.length - lowN xs s.name) ≤ xs.length := by omega
            have hB : (xs.drop (lowN xs s.name)).take (xs.length - lowN xs s.name) = xs.drop (lowN xs s.name) := List.take_of_length_le (by simp)
            have hC : (xs.drop (lowN xs s.name)).length = xs.length - lowN xs s.name := by simp
            have hD : (xs.take (lowN xs s.name)).length = lowN xs s.name := by simp; omega
            have hF : (xs.take (lowN xs s.name) ++ [s]).take (lowN xs s.name + 1) = xs.take (lowN xs s.name) ++ [s] := List.take_of_length_le (by simp; omega)
            have hE : lowN xs s.name - 0 = lowN xs s.name := Nat.sub_zero _
            refine goh (And.intro hA (And.intro hB (And.intro hC (And.intro hD (And.intro hE hlow))))) ?_
            exact finh [some 0, some 8] (And.intro e (And.intro hC (And.intro hD hF)))
    · simp [no] at hp
  · simp [no] at hp
noncomputable def killX (xs : List BSet) (k : Nat) : DoR :=
  if (xs.any fun s => same s.from_ (xs.getD k ET.bset.dflt).name) = true then ⟨xs, 6, false⟩ else ⟨xs.take k ++ xs.drop (k + 1), 0, true⟩
@[go_sem] noncomputable def ctKill : Ct := ⟨true, [], fun args os => match args, os with
  | [.agg [.osl .bset 0 0 n], .one (.val (.int .i64 k))], [.arr .bset xs] => doV (n = xs.length ∧ xs.length ≤ 100 ∧ 0 ≤ k ∧ k < xs.length) (killX xs k.toNat)
  | _, _ => no⟩
theorem s_kill_e : EnterOk Tryd.prog 90 := ⟨_, Tryd.func90, rfl, by decide⟩
@[go_sem] def s_kill_lv : List (List Nat) := [[1, 2, 4], [1, 2, 4, 6], [1, 2, 4, 6, 11], [1, 2, 4, 6], [1, 2, 4, 6, 26], [4, 5], [2, 4], [4, 5]]
@[go_sem] noncomputable def s_kill_K : Known := Known.nil
set_option maxHeartbeats 8000000 in
theorem s_kill : Sound Tryd.prog 90 ctKill := by
  have ke := s_kill_K.env []
  have kl : Lives s_kill_lv := trivial
  refine sound_intro (E := ⟨ti, s_kill_K.Γ, []⟩) ke Tryd.func90 Tryd.ntmps90 rfl (rs := [.cell 4 25, .tmp 5]) rfl ?_
  intro args os hp
  unfold ctKill at hp ⊢
  dsimp only at hp ⊢
  split at hp
  · rename_i n k xs
    obtain ⟨rfl, h1, h2, h3⟩ : n = xs.length ∧ xs.length ≤ 100 ∧ 0 ≤ k ∧ k < xs.length := hp
    obtain ⟨k, rfl⟩ := Int.eq_ofNat_of_zero_le h2
    have h3' : k < xs.length := by omega
    refine ⟨by simp, fun φ0 w0 => ?_⟩
    refine goh trivial ?_
    refine W_for xs.length (fun i => ∀ j, j < i → ¬ (xs.getD j ET.bset.dflt).from_ = (xs.getD k ET.bset.dflt).name) (fun i => ⟨[(1, vi k), (2, .one (.ptr 1 0)), (4, .one (.ptr 2 0)), (6, vi i)], [some (.arr .bset xs), some (.cells [.osl .bset 0 0 xs.length]), some (.cells [.val (.slice none 0 0)])], []⟩) [some 0, some 1, some 2] (leh trivial) (fun j hj => absurd hj (Nat.not_lt_zero _)) fun i hi hI => ?_
    refine goh trivial ?_
    refine W_cnd ?_ ?_ <;> (try simp only [cnd_r]) <;> intro hlt
    · have hi' : i < xs.length := by omega
      refine goh trivial ?_
      refine W_cnd ?_ ?_ <;> (try simp only [cnd_r]) <;> intro hs
      · have e : killX xs k = ⟨xs, 6, false⟩ := by
          unfold killX
          rw [if_pos]
          rw [List.any_eq_true]
          exact ⟨xs.getD i ET.bset.dflt, by simp [hi'], by rw [same_true]; exact hs⟩
        refine goh trivial ?_
        exact finh [some 0] e
      · refine goh trivial ?_
        refine ⟨[some 0, some 1, some 2], by omega, (leh trivial), fun j hj => ?_⟩
        rcases Nat.lt_succ_iff_lt_or_eq.1 hj with h | rfl
        · exact hI j h
        · exact hs
    · have : i = xs.length := by omega
      subst this
      have e : killX xs k = ⟨xs.take k ++ xs.drop (k + 1), 0, true⟩ := by
        unfold killX
        rw [if_neg]
        intro h
        rw [List.any_eq_true] at h
        obtain ⟨x, hx, hy⟩ := h
        obtain ⟨j, hj, rfl⟩ := List.mem_iff_getElem.1 hx
        have := hI j hj
        rw [List.getD_eq_getElem?_getD, List.getElem?_eq_getElem hj, Option.getD_some] at this
        rw [same_true] at hy; exact this hy
      have hA : k + 1 + (xs.length - (k + 1)) ≤ xs.length := by omega
      have hB : (xs.drop (k + 1)).take (xs.length - (k + 1)) = xs.drop (k + 1) := List.take_of_length_le (by simp)
      have hC : (xs.drop (k + 1)).length = xs.length - (k + 1) := by simp
      have hD : (xs.take k).length = k := by simp; omega
      have hE : k - 0 = k := Nat.sub_zero _
      have hF : k ≤ xs.length := by omega
      have hG : (xs.take k).take k = xs.take k := List.take_of_length_le (by simp; omega)
      have hw : IntKind.i64.wrap ((k : Int) + 1) = ((k + 1 : Nat) : Int) := by rw [wrap_id _ (by omega) (by omega)]; rfl
      refine goh (And.intro hA (And.intro hB (And.intro hC (And.intro hD (And.intro hE (And.intro hF (And.intro hG hw))))))) ?_
      exact finh [some 0, some 5] (And.intro e (And.intro hC hD))
  · simp [no] at hp
def Eight.put {α : Type} (x : Eight α) (i : Int) (t : α) : Eight α :=
  ⟨if i = 0 then t else x.x0, if i = 1 then t else x.x1, if i = 2 then t else x.x2, if i = 3 then t else x.x3, if i = 4 then t else x.x4, if i = 5 then t else x.x5, if i = 6 then t else x.x6, if i = 7 then t else x.x7⟩
def putX (xs : List BSet) (k : Nat) (i : Int) (t : ByteArray) : DoR :=
  if i < 0 ∨ 8 ≤ i ∨ 24 < t.size then ⟨xs, 5, false⟩ else if ¬ (xs.getD k ET.bset.dflt).kind = 1 then ⟨xs, 3, false⟩ else
    ⟨xs.set k ⟨(xs.getD k ET.bset.dflt).name, (xs.getD k ET.bset.dflt).kind, (xs.getD k ET.bset.dflt).from_, (xs.getD k ET.bset.dflt).blocks.put i t⟩, 0, false⟩
@[go_sem] noncomputable def ctPut : Ct := ⟨true, [], fun args os => match args, os with
  | [.agg [.osl .bset 0 0 n], .one (.val (.int .i64 k)), .agg [.val (.int .i64 kind), .val (.string a), .val (.string b), .val (.int .i64 i), .val (.string t)]], [.arr .bset xs] => doV (n = xs.length ∧ xs.length ≤ 100 ∧ 0 ≤ k ∧ k < xs.length ∧ t.size ≤ 1000) (putX xs k.toNat i t)
  | _, _ => no⟩
theorem s_put_e : EnterOk Tryd.prog 91 := ⟨_, Tryd.func91, rfl, by decide⟩
@[go_sem] def s_put_lv : List (List Nat) := [[1, 3, 5, 6], [1, 3, 5, 6, 21], [6, 7], [1, 3, 5, 6, 29], [6, 7], [3, 6], [6, 7]]
@[go_sem] noncomputable def s_put_K : Known := Known.nil
set_option maxHeartbeats 8000000 in
theorem s_put : Sound Tryd.prog 91 ctPut := by
  have ke := s_put_K.env []
  have kl : Lives s_put_lv := trivial
  refine sound_intro (E := ⟨ti, s_put_K.Γ, []⟩) ke Tryd.func91 Tryd.ntmps91 rfl (rs := [.cell 6 25, .tmp 7]) rfl ?_
  intro args os hp
  unfold ctPut at hp ⊢
  dsimp only at hp ⊢
  split at hp
  · rename_i n k kind a b i t xs
    obtain ⟨rfl, h1, h2, h3, h4⟩ : n = xs.length ∧ xs.length ≤ 100 ∧ 0 ≤ k ∧ k < xs.length ∧ t.size ≤ 1000 := hp
    obtain ⟨k, rfl⟩ := Int.eq_ofNat_of_zero_le h2
    have h3' : k < xs.length := by omega
    refine ⟨by simp, fun φ0 w0 => ?_⟩
    refine goh trivial ?_
    refine W_cnd ?_ ?_ <;> (try simp only [cnd_r]) <;> intro hb
    · have e : putX xs k i t = ⟨xs, 5, false⟩ := by unfold putX; rw [if_pos (by omega)]
      refine goh trivial ?_
      exact finh [some 0] e
    · have e1 : ¬ (i < 0 ∨ 8 ≤ i ∨ 24 < t.size) := by omega
      refine goh trivial ?_
      refine W_cnd ?_ ?_ <;> (try simp only [cnd_r]) <;> intro hk
      · have e : putX xs k i t = ⟨xs, 3, false⟩ := by unfold putX; rw [if_neg e1, if_pos hk]
        refine goh trivial ?_
        exact finh [some 0] e
      · have e : putX xs k i t = ⟨xs.set k ⟨(xs.getD k ET.bset.dflt).name, (xs.getD k ET.bset.dflt).kind, (xs.getD k ET.bset.dflt).from_, (xs.getD k ET.bset.dflt).blocks.put i t⟩, 0, false⟩ := by unfold putX; rw [if_neg e1, if_neg (by simpa using hk)]
        rcases (show i = 0 ∨ i = 1 ∨ i = 2 ∨ i = 3 ∨ i = 4 ∨ i = 5 ∨ i = 6 ∨ i = 7 by omega) with rfl | rfl | rfl | rfl | rfl | rfl | rfl | rfl
        all_goals
          simp only [Eight.put, Int.reduceEq, if_true, if_false] at e
          refine goh trivial ?_
          exact finh [some 0] e
  · simp [no] at hp
noncomputable def backX (xs : List BSet) (k : Nat) (name : ByteArray) : DoR :=
  if thereB xs name = false then ⟨xs, 1, false⟩ else if (xs.getD k ET.bset.dflt).kind = 1 ∧ (xs.getD (lowN xs name) ET.bset.dflt).kind = 2 ∧ (xs.getD (lowN xs name) ET.bset.dflt).from_ = (xs.getD k ET.bset.dflt).name then
    ⟨xs.set k ⟨(xs.getD k ET.bset.dflt).name, (xs.getD k ET.bset.dflt).kind, (xs.getD k ET.bset.dflt).from_, (xs.getD (lowN xs name) ET.bset.dflt).blocks⟩, 0, false⟩ else ⟨xs, 3, false⟩
@[go_sem] noncomputable def ctBack : Ct := ⟨true, [], fun args os => match args, os with
  | [.agg [.osl .bset 0 0 n], .one (.val (.int .i64 k)), .one (.val (.string name))], [.arr .bset xs] => doV (n = xs.length ∧ xs.length ≤ 100 ∧ 0 ≤ k ∧ k < xs.length) (backX xs k.toNat name)
  | _, _ => no⟩
theorem s_back_e : EnterOk Tryd.prog 92 := ⟨_, Tryd.func92, rfl, by decide⟩
@[go_sem] def s_back_lv : List (List Nat) := [[1, 2, 3, 6], [1, 3, 6, 8, 9], [1, 3, 6, 8, 16], [6, 7], [1, 3, 6, 8, 20], [6, 7], [3, 6], [6, 7]]
@[go_sem] noncomputable def s_back_K : Known := (Known.nil).cons 22 ctAt s_l4At s_l4At_e
set_option maxHeartbeats 8000000 in
theorem s_back : Sound Tryd.prog 92 ctBack := by
  have ke := s_back_K.env []
  have kl : Lives s_back_lv := trivial
  refine sound_intro (E := ⟨ti, s_back_K.Γ, []⟩) ke Tryd.func92 Tryd.ntmps92 rfl (rs := [.cell 6 25, .tmp 7]) rfl ?_
  intro args os hp
  unfold ctBack at hp ⊢
  dsimp only at hp ⊢
  split at hp
  · rename_i n k name xs
    obtain ⟨rfl, h1, h2, h3⟩ : n = xs.length ∧ xs.length ≤ 100 ∧ 0 ≤ k ∧ k < xs.length := hp
    obtain ⟨k, rfl⟩ := Int.eq_ofNat_of_zero_le h2
    have h3' : k < xs.length := by omega
    refine ⟨by simp, fun φ0 w0 => ?_⟩
    refine goh trivial ?_
    refine W_cnd ?_ ?_ <;> (try simp only [cnd_r]) <;> intro ht
    · have e : backX xs k name = ⟨xs, 1, false⟩ := by unfold backX; rw [if_pos ht]
      refine goh trivial ?_
      exact finh [some 0] e
    · have e1 : ¬ thereB xs name = false := by rw [ht]; decide
      have hlow := (there_lt ht).1
      refine goh trivial ?_
      refine W_cnd ?_ ?_ <;> (try simp only [cnd_r]) <;> intro hk
      · have e : backX xs k name = ⟨xs, 3, false⟩ := by
          unfold backX
          rw [if_neg e1, if_neg]
          rintro ⟨q1, q2, q3⟩
          first
            | exact hk.elim (fun h => h.elim (fun h => h q1) (fun h => h q2)) (fun h => h q3)
            | exact hk.elim (fun h => h ⟨q1, q2⟩) (fun h => h q3)
            | exact hk.elim (fun h => h q1 q2) (fun h => h q3)
        refine goh trivial ?_
        exact finh [some 0] e
      · have e : backX xs k name = ⟨xs.set k ⟨(xs.getD k ET.bset.dflt).name, (xs.getD k ET.bset.dflt).kind, (xs.getD k ET.bset.dflt).from_, (xs.getD (lowN xs name) ET.bset.dflt).blocks⟩, 0, false⟩ := by
          unfold backX
          rw [if_neg e1, if_pos]
          obtain ⟨⟨q1, q2⟩, q3⟩ := hk
          exact ⟨q1, q2, q3⟩
        refine goh trivial ?_
        exact finh [some 0] e
  · simp [no] at hp
noncomputable def doX (xs : List BSet) (o : BOp) : DoR :=
  if o.kind = 1 then newX xs ⟨o.a, 1, ⟨#[]⟩, Eight.rep ⟨#[]⟩⟩
  else if o.kind < 1 ∨ 6 < o.kind then ⟨xs, 5, false⟩
  else if thereB xs o.a = false then ⟨xs, 1, false⟩
  else if o.kind = 2 then killX xs (lowN xs o.a)
  else if o.kind = 3 then putX xs (lowN xs o.a) o.i o.text
  else if o.kind = 6 then backX xs (lowN xs o.a) o.b
  else if o.kind = 5 then (if ¬ (xs.getD (lowN xs o.a) ET.bset.dflt).kind = 2 then ⟨xs, 3, false⟩ else newX xs ⟨o.b, 1, (xs.getD (lowN xs o.a) ET.bset.dflt).name, (xs.getD (lowN xs o.a) ET.bset.dflt).blocks⟩)
  else (if ¬ (xs.getD (lowN xs o.a) ET.bset.dflt).kind = 1 then ⟨xs, 3, false⟩ else newX xs ⟨o.b, 2, (xs.getD (lowN xs o.a) ET.bset.dflt).name, (xs.getD (lowN xs o.a) ET.bset.dflt).blocks⟩)
@[go_sem] noncomputable def ctDo : Ct := ⟨true, [], fun args os => match args, os with
  | [.agg [.osl .bset 0 0 n], .agg [.val (.int .i64 kind), .val (.string a), .val (.string b), .val (.int .i64 i), .val (.string t)]], [.arr .bset xs] => doV (n = xs.length ∧ xs.length ≤ 100 ∧ a.size ≤ 1000 ∧ b.size ≤ 1000 ∧ t.size ≤ 1000) (doX xs ⟨kind, a, b, i, t⟩)
  | _, _ => no⟩
theorem s_do_e : EnterOk Tryd.prog 74 := ⟨_, Tryd.func74, rfl, by decide⟩
@[go_sem] def s_do_lv : List (List Nat) := [[2, 3, 4], [2, 3, 4, 12], [4, 5], [2, 3, 4, 27], [4, 5], [2, 3, 4, 6, 7], [2, 3, 4, 6, 37], [4, 5], [2, 3, 4, 6, 8], [2, 3, 4, 6, 8, 45], [2, 3, 4, 6, 8, 45, 46], [4, 5], [2, 3, 4, 6, 8, 45, 53], [4, 5], [2, 3, 4, 6, 8, 61], [4, 5], [2, 3, 4, 8, 9], [2, 3, 4, 8, 9, 72], [2, 3, 4, 8, 9], [2, 3, 4, 8, 9, 76], [4, 5], [4, 5]]
@[go_sem] noncomputable def s_do_K : Known := (((((Known.nil).cons 89 ctNew s_new s_new_e).cons 22 ctAt s_l4At s_l4At_e).cons 90 ctKill s_kill s_kill_e).cons 91 ctPut s_put s_put_e).cons 92 ctBack s_back s_back_e
set_option maxHeartbeats 8000000 in
theorem s_do : Sound Tryd.prog 74 ctDo := by
  have ke := s_do_K.env []
  have kl : Lives s_do_lv := trivial
  refine sound_intro (E := ⟨ti, s_do_K.Γ, []⟩) ke Tryd.func74 Tryd.ntmps74 rfl (rs := [.cell 4 25, .tmp 5]) rfl ?_
  intro args os hp
  unfold ctDo at hp ⊢
  dsimp only at hp ⊢
  split at hp
  · rename_i n kind a b i t xs
    obtain ⟨rfl, h1, h2, h3, h4⟩ : n = xs.length ∧ xs.length ≤ 100 ∧ a.size ≤ 1000 ∧ b.size ≤ 1000 ∧ t.size ≤ 1000 := hp
    refine ⟨by simp, fun φ0 w0 => ?_⟩
    refine goh trivial ?_
    refine W_cnd ?_ ?_ <;> (try simp only [cnd_r]) <;> intro hk1
    · obtain ⟨⟨ys, c, f⟩, hr⟩ : ∃ r, newX xs ⟨a, 1, ⟨#[]⟩, ⟨⟨#[]⟩, ⟨#[]⟩, ⟨#[]⟩, ⟨#[]⟩, ⟨#[]⟩, ⟨#[]⟩, ⟨#[]⟩, ⟨#[]⟩⟩⟩ = r := ⟨_, rfl⟩
      have e : doX xs ⟨kind, a, b, i, t⟩ = ⟨ys, c, f⟩ := by unfold doX; rw [if_pos hk1]; exact hr
      cases f with
      | false =>
        refine goh hr ?_
        exact finh [some 0] e
      | true =>
        refine goh hr ?_
        exact finh [some 0, some 4] e
    · simp only [beq_eq_false_iff_ne, ne_eq] at hk1
      refine goh trivial ?_
      refine W_cnd ?_ ?_ <;> (try simp only [cnd_r]) <;> intro hk2
      · have e : doX xs ⟨kind, a, b, i, t⟩ = ⟨xs, 5, false⟩ := by unfold doX; rw [if_neg hk1, if_pos (by omega)]
        refine goh trivial ?_
        exact finh [some 0] e
      · have hk2 : ¬ (kind < 1 ∨ 6 < kind) := by omega
        refine goh trivial ?_
        refine W_cnd ?_ ?_ <;> (try simp only [cnd_r]) <;> intro ht
        · have e : doX xs ⟨kind, a, b, i, t⟩ = ⟨xs, 1, false⟩ := by unfold doX; rw [if_neg hk1, if_neg hk2, if_pos ht]
          refine goh trivial ?_
          exact finh [some 0] e
        · have ht2 : ¬ thereB xs a = false := by rw [ht]; decide
          have hlow := (there_lt ht).1
          refine goh trivial ?_
          refine W_cnd ?_ ?_ <;> (try simp only [cnd_r]) <;> intro hk3
          · obtain ⟨⟨ys, c, f⟩, hr⟩ : ∃ r, killX xs (lowN xs a) = r := ⟨_, rfl⟩
            have e : doX xs ⟨kind, a, b, i, t⟩ = ⟨ys, c, f⟩ := by unfold doX; rw [if_neg hk1, if_neg hk2, if_neg ht2, if_pos hk3]; exact hr
            cases f with
            | false =>
              refine goh hr ?_
              exact finh [some 0] e
            | true =>
              refine goh hr ?_
              exact finh [some 0, some 5] e
          · simp only [beq_eq_false_iff_ne, ne_eq] at hk3
            refine goh trivial ?_
            refine W_cnd ?_ ?_ <;> (try simp only [cnd_r]) <;> intro hk4
            · obtain ⟨⟨ys, c, f⟩, hr⟩ : ∃ r, putX xs (lowN xs a) i t = r := ⟨_, rfl⟩
              have e : doX xs ⟨kind, a, b, i, t⟩ = ⟨ys, c, f⟩ := by unfold doX; rw [if_neg hk1, if_neg hk2, if_neg ht2, if_neg hk3, if_pos hk4]; exact hr
              cases f with
              | false =>
                refine goh hr ?_
                exact finh [some 0] e
              | true =>
                refine goh hr ?_
                exact finh [some 0, some 5] e
            · simp only [beq_eq_false_iff_ne, ne_eq] at hk4
              refine goh trivial ?_
              refine W_cnd ?_ ?_ <;> (try simp only [cnd_r]) <;> intro hk5
              · obtain ⟨⟨ys, c, f⟩, hr⟩ : ∃ r, backX xs (lowN xs a) b = r := ⟨_, rfl⟩
                have e : doX xs ⟨kind, a, b, i, t⟩ = ⟨ys, c, f⟩ := by unfold doX; rw [if_neg hk1, if_neg hk2, if_neg ht2, if_neg hk3, if_neg hk4, if_pos hk5]; exact hr
                cases f with
                | false =>
                  refine goh hr ?_
                  exact finh [some 0] e
                | true =>
                  refine goh hr ?_
                  exact finh [some 0, some 5] e
              · simp only [beq_eq_false_iff_ne, ne_eq] at hk5
                refine goh trivial ?_
                refine W_cnd ?_ ?_ <;> (try simp only [cnd_r]) <;> intro hk6
                · refine goh trivial ?_
                  refine W_cnd ?_ ?_ <;> (try simp only [cnd_r]) <;> intro hw
                  · have e : doX xs ⟨kind, a, b, i, t⟩ = ⟨xs, 3, false⟩ := by unfold doX; rw [if_neg hk1, if_neg hk2, if_neg ht2, if_neg hk3, if_neg hk4, if_neg hk5, if_pos hk6, if_pos hw]
                    refine goh trivial ?_
                    exact finh [some 0] e
                  · have hw1 : IntKind.i64.wrap (3 - 2) = 1 ∧ IntKind.i64.wrap (3 - 1) = 2 := by decide
                    have hw2 : ¬ ¬ (xs.getD (lowN xs a) ET.bset.dflt).kind = 2 := fun h => h hw
                    obtain ⟨⟨ys, c, f⟩, hr⟩ : ∃ r, newX xs ⟨b, 1, (xs.getD (lowN xs a) ET.bset.dflt).name, ⟨(xs.getD (lowN xs a) ET.bset.dflt).blocks.x0, (xs.getD (lowN xs a) ET.bset.dflt).blocks.x1, (xs.getD (lowN xs a) ET.bset.dflt).blocks.x2, (xs.getD (lowN xs a) ET.bset.dflt).blocks.x3, (xs.getD (lowN xs a) ET.bset.dflt).blocks.x4, (xs.getD (lowN xs a) ET.bset.dflt).blocks.x5, (xs.getD (lowN xs a) ET.bset.dflt).blocks.x6, (xs.getD (lowN xs a) ET.bset.dflt).blocks.x7⟩⟩ = r := ⟨_, rfl⟩
                    have e : doX xs ⟨kind, a, b, i, t⟩ = ⟨ys, c, f⟩ := by unfold doX; rw [if_neg hk1, if_neg hk2, if_neg ht2, if_neg hk3, if_neg hk4, if_neg hk5, if_pos hk6, if_neg hw2]; exact hr
                    cases f with
                    | false =>
                      refine goh (And.intro hr hw1) ?_
                      exact finh [some 0] e
                    | true =>
                      refine goh (And.intro hr hw1) ?_
                      exact finh [some 0, some 5] e
                · simp only [beq_eq_false_iff_ne, ne_eq] at hk6
                  refine goh trivial ?_
                  refine W_cnd ?_ ?_ <;> (try simp only [cnd_r]) <;> intro hw
                  · have e : doX xs ⟨kind, a, b, i, t⟩ = ⟨xs, 3, false⟩ := by unfold doX; rw [if_neg hk1, if_neg hk2, if_neg ht2, if_neg hk3, if_neg hk4, if_neg hk5, if_neg hk6, if_pos hw]
                    refine goh trivial ?_
                    exact finh [some 0] e
                  · have hw1 : IntKind.i64.wrap (3 - 2) = 1 ∧ IntKind.i64.wrap (3 - 1) = 2 := by decide
                    have hw2 : ¬ ¬ (xs.getD (lowN xs a) ET.bset.dflt).kind = 1 := fun h => h hw
                    obtain ⟨⟨ys, c, f⟩, hr⟩ : ∃ r, newX xs ⟨b, 2, (xs.getD (lowN xs a) ET.bset.dflt).name, ⟨(xs.getD (lowN xs a) ET.bset.dflt).blocks.x0, (xs.getD (lowN xs a) ET.bset.dflt).blocks.x1, (xs.getD (lowN xs a) ET.bset.dflt).blocks.x2, (xs.getD (lowN xs a) ET.bset.dflt).blocks.x3, (xs.getD (lowN xs a) ET.bset.dflt).blocks.x4, (xs.getD (lowN xs a) ET.bset.dflt).blocks.x5, (xs.getD (lowN xs a) ET.bset.dflt).blocks.x6, (xs.getD (lowN xs a) ET.bset.dflt).blocks.x7⟩⟩ = r := ⟨_, rfl⟩
                    have e : doX xs ⟨kind, a, b, i, t⟩ = ⟨ys, c, f⟩ := by unfold doX; rw [if_neg hk1, if_neg hk2, if_neg ht2, if_neg hk3, if_neg hk4, if_neg hk5, if_neg hk6, if_neg hw2]; exact hr
                    cases f with
                    | false =>
                      refine goh (And.intro hr hw1) ?_
                      exact finh [some 0] e
                    | true =>
                      refine goh (And.intro hr hw1) ?_
                      exact finh [some 0, some 5] e
  · simp [no] at hp
end Go.Proofs.YtjedcphhajlnoaaDoor
