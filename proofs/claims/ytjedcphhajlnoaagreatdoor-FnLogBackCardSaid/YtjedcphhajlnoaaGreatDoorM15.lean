import Derived.Test.YtjedcphhajlnoaaGreatDoorProg
import Derived.WalkKit
import Derived.Ground.NamesProg
import Derived.Shelf.Small.Strs
import Derived.Test.YtjedcphhajlnoaaGreatDoorM14
set_option linter.unusedSimpArgs false
set_option linter.unusedVariables false
set_option linter.unusedSectionVars false
/- Functions: valid books, the program's. -/
namespace Go.Proofs.YtjedcphhajlnoaaGreatDoor
open Go.RowKit

@[go_sem] def ctLong24 : Ct := ⟨false, [], fun args os => match args, os with
  | [.one (.val (.string t))], [] => is (vb (long24 t))
  | _, _ => no⟩
theorem s_long24_e : EnterOk Tryz.prog 261 := ⟨_, Tryz.func261, rfl, by decide⟩
@[go_sem] def s_long24_lv : List (List Nat) := [[0], [2]]
@[go_sem] noncomputable def s_long24_K : Known := Known.nil
set_option maxHeartbeats 8000000 in
theorem s_long24 : Sound Tryz.prog 261 ctLong24 := by
  have ke := s_long24_K.env []
  have kl : Lives s_long24_lv := trivial
  refine sound_intro (E := ⟨ti, s_long24_K.Γ, []⟩) ke Tryz.func261 Tryz.ntmps261 rfl (rs := [.tmp 2]) rfl ?_
  intro args os hp
  unfold ctLong24 at hp ⊢
  dsimp only at hp ⊢
  split at hp
  · rename_i t
    refine ⟨by simp, fun φ0 w0 => ?_⟩
    refine goh trivial ?_
    refine ⟨by (simp only [go_sem, long24, ↓reduceIte, reduceCtorEq, Nat.reduceAdd, Nat.reduceLT, Nat.reduceLeDiff, Nat.reduceEqDiff]) <;> trivial, [], ?_⟩
    all_goals try simp only [go_sem, long24, inj_r, ↓reduceIte, reduceCtorEq, Nat.reduceAdd, Nat.reduceLT, Nat.reduceLeDiff, Nat.reduceEqDiff, Int.reduceEq]
    all_goals (repeat' refine And.intro ?_ ?_) <;> try exact shut7
  · simp [no, is] at hp
@[go_sem] def ctIndex24 : Ct := ⟨false, [[some .str]], fun args os => match args, os with
  | [.one (.isl .str xs), .one (.fn 261 [])], [] => ifp (xs.length ≤ 4000000) (vi (firstAt long24 xs))
  | _, _ => no⟩
@[go_sem] def sgIndex24 (xs : List ByteArray) (i : Nat) : Sg := ⟨[(8, vi i), (7, vi xs.length), (0, .one (.isl .str xs)), (1, .one (.fn 261 []))], [], []⟩
theorem s_index24_e : EnterOk Tryz.prog 229 := ⟨_, Tryz.func229, rfl, by decide⟩
@[go_sem] def s_index24_lv : List (List Nat) := [[0, 1], [0, 1, 7, 8], [0, 1, 7, 8, 9], [0, 1, 5, 7, 8], [0, 1, 5, 7, 8, 16], [4], [0, 1, 7, 8], [4]]
@[go_sem] noncomputable def s_index24_K : Known := (Known.nil).cons 261 ctLong24 s_long24 s_long24_e
set_option maxHeartbeats 8000000 in
theorem s_index24 : Sound Tryz.prog 229 ctIndex24 := by
  have ke := s_index24_K.env []
  have kl : Lives s_index24_lv := trivial
  refine sound_intro (E := ⟨ti, s_index24_K.Γ, []⟩) ke Tryz.func229 Tryz.ntmps229 rfl (rs := [.tmp 4]) rfl ?_
  intro args os hp
  unfold ctIndex24 at hp ⊢
  dsimp only at hp ⊢
  split at hp
  · rename_i xs
    refine ⟨by simp, fun φ0 w0 => ?_⟩
    have hlen : xs.length ≤ 4000000 := hp
    clear hp
    refine goh trivial ?_
    refine W_le (σ' := sgIndex24 xs 0) [] (by
      simp only [go_sem, inj_r, ↓reduceIte, reduceCtorEq, Nat.reduceAdd, Nat.reduceLT, Nat.reduceLeDiff, Nat.reduceEqDiff, Int.reduceEq]
      all_goals (repeat' refine And.intro ?_ ?_) <;> try exact shut7
      ) ?_
    refine W_loop (fun n σ => ∃ i : Nat, i ≤ xs.length ∧ n = xs.length - i ∧ (∀ j, j < i → long24 (xs.getD j ET.str.dflt) = false) ∧ σ = sgIndex24 xs i) xs.length ⟨0, by omega, by omega, by omega, rfl⟩ ?_
    rintro n σ ⟨i, hi, rfl, hbef, rfl⟩
    unfold sgIndex24
    refine goh trivial ?_
    refine W_cnd ?_ ?_ <;> (try simp only [cnd_r]) <;> intro hlt
    · refine goh trivial ?_
      refine W_cnd ?_ ?_ <;> (try simp only [cnd_r]) <;> intro hl
      · refine goh trivial ?_
        refine ⟨by (simp only [go_sem, ↓reduceIte, reduceCtorEq, Nat.reduceAdd, Nat.reduceLT, Nat.reduceLeDiff, Nat.reduceEqDiff]) <;> trivial, [], ?_⟩
        all_goals try simp only [go_sem, inj_r, ↓reduceIte, reduceCtorEq, Nat.reduceAdd, Nat.reduceLT, Nat.reduceLeDiff, Nat.reduceEqDiff, Int.reduceEq]
        all_goals (repeat' refine And.intro ?_ ?_) <;> try exact shut7
        exact (firstAt_some (by omega) hbef hl).symm
      · refine goh trivial ?_
        refine ⟨xs.length - (i + 1), [], sgIndex24 xs (i + 1), by omega, ?_, i + 1, by omega, rfl, fun j hj => ?_, rfl⟩
        · exact leh trivial
        · rcases Nat.lt_succ_iff_lt_or_eq.1 hj with h | rfl
          · exact hbef j h
          · exact hl
    · refine goh trivial ?_
      refine ⟨by (simp only [go_sem, ↓reduceIte, reduceCtorEq, Nat.reduceAdd, Nat.reduceLT, Nat.reduceLeDiff, Nat.reduceEqDiff]) <;> trivial, [], ?_⟩
      all_goals try simp only [go_sem, inj_r, ↓reduceIte, reduceCtorEq, Nat.reduceAdd, Nat.reduceLT, Nat.reduceLeDiff, Nat.reduceEqDiff, Int.reduceEq]
      all_goals (repeat' refine And.intro ?_ ?_) <;> try exact shut7
      exact (firstAt_none fun j hj => hbef j (by omega)).symm
  · simp [no, ifp] at hp
@[go_sem] def ctHas24 : Ct := ⟨false, [[some .str]], fun args os => match args, os with
  | [.one (.isl .str xs), .one (.fn 261 [])], [] => ifp (xs.length ≤ 4000000) (vb (xs.any long24))
  | _, _ => no⟩
theorem s_has24_e : EnterOk Tryz.prog 162 := ⟨_, Tryz.func162, rfl, by decide⟩
@[go_sem] def s_has24_lv : List (List Nat) := [[0, 1], [4]]
@[go_sem] noncomputable def s_has24_K : Known := (Known.nil).cons 229 ctIndex24 s_index24 s_index24_e
set_option maxHeartbeats 8000000 in
theorem s_has24 : Sound Tryz.prog 162 ctHas24 := by
  have ke := s_has24_K.env []
  have kl : Lives s_has24_lv := trivial
  refine sound_intro (E := ⟨ti, s_has24_K.Γ, []⟩) ke Tryz.func162 Tryz.ntmps162 rfl (rs := [.tmp 4]) rfl ?_
  intro args os hp
  unfold ctHas24 at hp ⊢
  dsimp only at hp ⊢
  split at hp
  · rename_i xs
    refine ⟨by simp, fun φ0 w0 => ?_⟩
    have hlen : xs.length ≤ 4000000 := hp
    clear hp
    refine goh trivial ?_
    refine ⟨by (simp only [go_sem, ↓reduceIte, reduceCtorEq, Nat.reduceAdd, Nat.reduceLT, Nat.reduceLeDiff, Nat.reduceEqDiff]) <;> trivial, [], ?_⟩
    all_goals try simp only [go_sem, inj_r, ↓reduceIte, reduceCtorEq, Nat.reduceAdd, Nat.reduceLT, Nat.reduceLeDiff, Nat.reduceEqDiff, Int.reduceEq]
    all_goals (repeat' refine And.intro ?_ ?_) <;> try exact shut7
    exact firstAt_ge _ _
  · simp [no, ifp] at hp
@[go_sem] noncomputable def ctNamed : Ct := ⟨true, [], fun args os => match args, os with
  | [.agg cs, .one (.ptr 0 0)], [.cells ds] => (match bsetOf cs, bsetOf ds with | some x, some s => is (vb (same x.name s.from_)) | _, _ => no)
  | _, _ => no⟩
theorem s_named_e : EnterOk Tryz.prog 287 := ⟨_, Tryz.func287, rfl, by decide⟩
@[go_sem] def s_named_lv : List (List Nat) := [[1, 2], [3]]
@[go_sem] noncomputable def s_named_K : Known := Known.nil
set_option maxHeartbeats 8000000 in
theorem s_named : Sound Tryz.prog 287 ctNamed := by
  have ke := s_named_K.env []
  have kl : Lives s_named_lv := trivial
  refine sound_intro (E := ⟨ti, s_named_K.Γ, []⟩) ke Tryz.func287 Tryz.ntmps287 rfl (rs := [.tmp 3]) rfl ?_
  intro args os hp
  unfold ctNamed at hp ⊢
  dsimp only at hp ⊢
  split at hp
  · rename_i cs ds
    split at hp
    · rename_i x s hx hs
      obtain rfl := bsetOf_some hx
      obtain rfl := bsetOf_some hs
      clear hx hs hp
      refine ⟨by simp, fun φ0 w0 => ?_⟩
      refine goh trivial ?_
      exact finh [some 0] trivial
    · simp [no] at hp
  · simp [no] at hp
@[go_sem] noncomputable def ctIndexNamed : Ct := ⟨true, [[some .bset]], fun args os => match args, os with
  | [.one (.isl .bset xs), .one (.fn 287 [(0, 0)])], [.cells ds] => (match bsetOf ds with | some s => ifp (xs.length ≤ 4000000) (vi (atB xs s.from_)) | none => no)
  | _, _ => no⟩
@[go_sem] def sgIxN (xs : List BSet) (s : BSet) (i : Nat) : Sg := ⟨[(8, vi i), (7, vi xs.length), (0, .one (.isl .bset xs)), (1, .one (.fn 287 [(0, 0)]))], [some (.cells ((ET.bset.cells s).map .val))], []⟩
theorem s_indexNamed_e : EnterOk Tryz.prog 286 := ⟨_, Tryz.func286, rfl, by decide⟩
@[go_sem] def s_indexNamed_lv : List (List Nat) := [[0, 1], [0, 1, 7, 8], [0, 1, 7, 8, 9], [0, 1, 5, 7, 8], [0, 1, 5, 7, 8, 16], [4], [0, 1, 7, 8], [4]]
@[go_sem] noncomputable def s_indexNamed_K : Known := (Known.nil).cons 287 ctNamed s_named s_named_e
set_option maxHeartbeats 8000000 in
theorem s_indexNamed : Sound Tryz.prog 286 ctIndexNamed := by
  have ke := s_indexNamed_K.env []
  have kl : Lives s_indexNamed_lv := trivial
  refine sound_intro (E := ⟨ti, s_indexNamed_K.Γ, []⟩) ke Tryz.func286 Tryz.ntmps286 rfl (rs := [.tmp 4]) rfl ?_
  intro args os hp
  unfold ctIndexNamed at hp ⊢
  dsimp only at hp ⊢
  split at hp
  · rename_i xs ds
    split at hp
    · rename_i s hs
      obtain rfl := bsetOf_some hs
      have hlen : xs.length ≤ 4000000 := hp
      clear hs
      refine ⟨by simp, fun φ0 w0 => ?_⟩
      refine goh trivial ?_
      refine W_le (σ' := sgIxN xs s 0) [some 0] (by
        simp only [go_sem, inj_r, ↓reduceIte, reduceCtorEq, Nat.reduceAdd, Nat.reduceLT, Nat.reduceLeDiff, Nat.reduceEqDiff, Int.reduceEq]
        all_goals (repeat' refine And.intro ?_ ?_) <;> try exact shut7
        ) ?_
      refine W_loop (fun n σ => ∃ i : Nat, i ≤ xs.length ∧ n = xs.length - i ∧ (∀ j, j < i → same (xs.getD j ET.bset.dflt).name s.from_ = false) ∧ σ = sgIxN xs s i) xs.length ⟨0, by omega, by omega, by omega, rfl⟩ ?_
      rintro n σ ⟨i, hi, rfl, hbef, rfl⟩
      unfold sgIxN
      refine goh trivial ?_
      refine W_cnd ?_ ?_ <;> (try simp only [cnd_r]) <;> intro hlt
      · refine goh trivial ?_
        refine W_cond _ (by exact rfl) (by exact trivial) ?_ ?_ <;> intro hl
        · have e : atB xs s.from_ = i := firstAt_some (by omega) hbef hl
          refine goh trivial ?_
          exact finh [some 0] e
        · refine goh trivial ?_
          refine ⟨xs.length - (i + 1), [some 0], sgIxN xs s (i + 1), by omega, ?_, i + 1, by omega, rfl, fun j hj => ?_, rfl⟩
          · exact leh trivial
          · rcases Nat.lt_succ_iff_lt_or_eq.1 hj with h | rfl
            · first | exact hbef j h | exact same_false.1 (hbef j h)
            · first | exact hl | exact same_false.1 hl
      · have e : atB xs s.from_ = -1 := firstAt_none fun j hj => hbef j (by omega)
        refine goh trivial ?_
        exact finh [some 0] e
    · simp [no] at hp
  · simp [no] at hp
@[go_sem] noncomputable def ctLeads : Ct := ⟨false, [[some .bset], []], fun args os => match args, os with
  | [.agg [.isl .bset xs], .agg cs], [] => (match bsetOf cs with | some s => ifp (xs.length ≤ 4000000) (vb (leadsN xs xs.length s)) | none => no)
  | _, _ => no⟩
@[go_sem] def sgLeads (xs : List BSet) (s : BSet) (i : Nat) : Sg := ⟨[(2, .one (.ptr 0 0)), (3, .one (.ptr 1 0)), (8, vi xs.length), (9, vi i)], [some (.cells [.isl .bset xs]), some (.cells ((ET.bset.cells s).map .val))], []⟩
theorem atB_lt (xs : List BSet) (name : ByteArray) : atB xs name < xs.length := by
  unfold atB firstAt
  split
  · rename_i i h
    rw [List.findIdx?_eq_some_iff_getElem] at h
    obtain ⟨hi, -⟩ := h
    omega
  · omega
theorem s_leads_e : EnterOk Tryz.prog 264 := ⟨_, Tryz.func264, rfl, by decide⟩
@[go_sem] def s_leads_lv : List (List Nat) := [[2, 3], [2, 3, 8, 9], [2, 3, 8, 9, 10], [2, 3, 8, 9, 13], [4], [2, 3, 5, 8, 9], [2, 3, 5, 8, 9, 33], [4], [2, 3, 8, 9], [2, 3, 8, 9], [4]]
@[go_sem] noncomputable def s_leads_K : Known := ((Known.nil).cons 286 ctIndexNamed s_indexNamed s_indexNamed_e).cons 287 ctNamed s_named s_named_e
set_option maxHeartbeats 8000000 in
theorem s_leads : Sound Tryz.prog 264 ctLeads := by
  have ke := s_leads_K.env []
  have kl : Lives s_leads_lv := trivial
  refine sound_intro (E := ⟨ti, s_leads_K.Γ, []⟩) ke Tryz.func264 Tryz.ntmps264 rfl (rs := [.tmp 4]) rfl ?_
  intro args os hp
  unfold ctLeads at hp ⊢
  dsimp only at hp ⊢
  split at hp
  · rename_i xs cs
    split at hp
    · rename_i s0 hs0
      obtain rfl := bsetOf_some hs0
      have hlen : xs.length ≤ 4000000 := hp
      clear hs0
      refine ⟨by simp, fun φ0 w0 => ?_⟩
      obtain ⟨R, hR⟩ : ∃ R, leadsN xs xs.length s0 = R := ⟨_, rfl⟩
      refine goh trivial ?_
      refine W_le (σ' := sgLeads xs s0 0) [some 0, some 1] (by
        simp only [go_sem, inj_r, ↓reduceIte, reduceCtorEq, Nat.reduceAdd, Nat.reduceLT, Nat.reduceLeDiff, Nat.reduceEqDiff, Int.reduceEq]
        all_goals (repeat' refine And.intro ?_ ?_) <;> try exact shut7
        ) ?_
      refine W_loop (fun q σ => ∃ (i : Nat) (s : BSet), i ≤ xs.length ∧ q = xs.length - i ∧ leadsN xs (xs.length - i) s = R ∧ σ = sgLeads xs s i) xs.length ⟨0, s0, by omega, by omega, hR, rfl⟩ ?_
      rintro q σ ⟨i, s, hi, rfl, hs, rfl⟩
      unfold sgLeads
      refine goh trivial ?_
      refine W_cnd ?_ ?_ <;> (try simp only [cnd_r]) <;> intro hlt
      · obtain ⟨m, hm⟩ : ∃ m, xs.length - i = m + 1 := ⟨xs.length - i - 1, by omega⟩
        rw [hm] at hs
        unfold leadsN at hs
        refine goh trivial ?_
        refine W_cond _ (by exact rfl) (by exact trivial) ?_ ?_ <;> intro hf
        · rw [if_pos hf] at hs
          have e : leadsN xs xs.length s0 = (s.kind == 1) := by rw [hR, ← hs]
          refine goh trivial ?_
          exact finh [] e
        · rw [if_neg (by rw [hf]; decide)] at hs
          have hl := atB_lt xs s.from_
          repeat' first
            | with_reducible refine red ?_
            | refine W_seq ?_
            | (refine W_reg (s_leads_K.env []) s_leads_lv fun K' hK' => ?_
               simp only [go_sem, ↓reduceIte, ↓reduceDIte, reduceCtorEq, Nat.reduceAdd, Nat.reduceMul, Nat.reduceSub, Nat.reduceDiv, Nat.reduceMod, Nat.reduceLT, Nat.reduceLeDiff, Nat.reduceEqDiff, Nat.reduceBEq, Int.reduceToNat, Int.reduceLE, Int.reduceLT, Int.reduceEq, Int.reduceNe, Int.reduceNeg]
               (repeat' refine And.intro ?_ ?_) <;> try first | with_reducible refine hK' ?_ | exact shut6)
            | with_reducible refine blockG_o (by decide) ?_
          · intro hgd
            have hgd2 : ¬ atB xs s.from_ < 0 := by simpa using hgd
            omega
          refine W_cnd ?_ ?_ <;> (try simp only [cnd_r]) <;> intro hc
          · have e : leadsN xs xs.length s0 = false := by
              rw [hR, ← hs, if_pos]
              rcases hc with h | h
              · exact .inl h
              · exact .inr h
            refine goh trivial ?_
            exact finh [] e
          · obtain ⟨c1, c2⟩ := hc
            have c3 : ¬ (setOf xs s.from_).kind = s.kind := by
              intro h
              rw [beq_eq_false_iff_ne] at c2
              exact c2 h
            rw [if_neg (fun h => h.elim c1 c3)] at hs
            refine goh trivial ?_
            refine ⟨xs.length - (i + 1), [some 0, some 1], sgLeads xs (setOf xs s.from_) (i + 1), by omega, ?_, i + 1, setOf xs s.from_, by omega, rfl, ?_, rfl⟩
            · simp only [go_sem, setOf, inj_r, ↓reduceIte, reduceCtorEq, Nat.reduceAdd, Nat.reduceLT, Nat.reduceLeDiff, Nat.reduceEqDiff, Int.reduceEq]
              all_goals (repeat' refine And.intro ?_ ?_) <;> try exact shut7
            · rw [show xs.length - (i + 1) = m by omega]; exact hs
      · have h0 : xs.length - i = 0 := by omega
        rw [h0] at hs
        have e : leadsN xs xs.length s0 = false := by rw [hR, ← hs]; rfl
        refine goh trivial ?_
        exact finh [] e
    · simp [no] at hp
  · simp [no] at hp
@[go_sem] noncomputable def ctBadSet : Ct := ⟨true, [], fun args os => match args, os with
  | [.agg cs, .one (.ptr 0 0)], [.cells [.isl .bset xs]] => (match bsetOf cs with | some s => ifp (xs.length ≤ 4000000) (vb (!leadsN xs xs.length s)) | none => no)
  | _, _ => no⟩
theorem s_badSet_e : EnterOk Tryz.prog 263 := ⟨_, Tryz.func263, rfl, by decide⟩
@[go_sem] def s_badSet_lv : List (List Nat) := [[1, 2], [3]]
@[go_sem] noncomputable def s_badSet_K : Known := (Known.nil).cons 264 ctLeads s_leads s_leads_e
set_option maxHeartbeats 8000000 in
theorem s_badSet : Sound Tryz.prog 263 ctBadSet := by
  have ke := s_badSet_K.env []
  have kl : Lives s_badSet_lv := trivial
  refine sound_intro (E := ⟨ti, s_badSet_K.Γ, []⟩) ke Tryz.func263 Tryz.ntmps263 rfl (rs := [.tmp 3]) rfl ?_
  intro args os hp
  unfold ctBadSet at hp ⊢
  dsimp only at hp ⊢
  split at hp
  · rename_i cs xs
    split at hp
    · rename_i s hs
      obtain rfl := bsetOf_some hs
      have hlen : xs.length ≤ 4000000 := hp
      clear hs
      refine ⟨by simp, fun φ0 w0 => ?_⟩
      refine goh trivial ?_
      exact finh [some 0] trivial
    · simp [no] at hp
  · simp [no] at hp
@[go_sem] noncomputable def ctIndexBad : Ct := ⟨true, [[some .bset]], fun args os => match args, os with
  | [.one (.isl .bset ys), .one (.fn 263 [(0, 0)])], [.cells [.isl .bset xs]] => ifp (xs.length ≤ 4000000 ∧ ys.length ≤ 4000000) (vi (firstAt (fun s => !leadsN xs xs.length s) ys))
  | _, _ => no⟩
@[go_sem] def sgIxB (xs ys : List BSet) (i : Nat) : Sg := ⟨[(8, vi i), (7, vi ys.length), (0, .one (.isl .bset ys)), (1, .one (.fn 263 [(0, 0)]))], [some (.cells [.isl .bset xs])], []⟩
theorem s_indexBad_e : EnterOk Tryz.prog 286 := ⟨_, Tryz.func286, rfl, by decide⟩
@[go_sem] def s_indexBad_lv : List (List Nat) := [[0, 1], [0, 1, 7, 8], [0, 1, 7, 8, 9], [0, 1, 5, 7, 8], [0, 1, 5, 7, 8, 16], [4], [0, 1, 7, 8], [4]]
@[go_sem] noncomputable def s_indexBad_K : Known := (Known.nil).cons 263 ctBadSet s_badSet s_badSet_e
set_option maxHeartbeats 8000000 in
theorem s_indexBad : Sound Tryz.prog 286 ctIndexBad := by
  have ke := s_indexBad_K.env []
  have kl : Lives s_indexBad_lv := trivial
  refine sound_intro (E := ⟨ti, s_indexBad_K.Γ, []⟩) ke Tryz.func286 Tryz.ntmps286 rfl (rs := [.tmp 4]) rfl ?_
  intro args os hp
  unfold ctIndexBad at hp ⊢
  dsimp only at hp ⊢
  split at hp
  · rename_i ys xs
    refine ⟨by simp, fun φ0 w0 => ?_⟩
    obtain ⟨hx, hlen⟩ : xs.length ≤ 4000000 ∧ ys.length ≤ 4000000 := hp
    refine goh trivial ?_
    refine W_le (σ' := sgIxB xs ys 0) [some 0] (by
      simp only [go_sem, inj_r, ↓reduceIte, reduceCtorEq, Nat.reduceAdd, Nat.reduceLT, Nat.reduceLeDiff, Nat.reduceEqDiff, Int.reduceEq]
      all_goals (repeat' refine And.intro ?_ ?_) <;> try exact shut7
      ) ?_
    refine W_loop (fun n σ => ∃ i : Nat, i ≤ ys.length ∧ n = ys.length - i ∧ (∀ j, j < i → leadsN xs xs.length (ys.getD j ET.bset.dflt) = true) ∧ σ = sgIxB xs ys i) ys.length ⟨0, by omega, by omega, by omega, rfl⟩ ?_
    rintro n σ ⟨i, hi, rfl, hbef, rfl⟩
    unfold sgIxB
    refine goh trivial ?_
    refine W_cnd ?_ ?_ <;> (try simp only [cnd_r]) <;> intro hlt
    · refine goh trivial ?_
      refine W_cond _ (by exact rfl) (by exact trivial) ?_ ?_ <;> intro hl
      · have e : firstAt (fun s => !leadsN xs xs.length s) ys = i := firstAt_some (d := ET.bset.dflt) (by omega) (fun j hj => by show (!leadsN xs xs.length (ys.getD j ET.bset.dflt)) = false; rw [hbef j hj]; rfl) hl
        refine goh trivial ?_
        exact finh [some 0] e
      · have hl2 : leadsN xs xs.length (ys.getD i ET.bset.dflt) = true := by simpa using hl
        refine goh trivial ?_
        refine ⟨ys.length - (i + 1), [some 0], sgIxB xs ys (i + 1), by omega, ?_, i + 1, by omega, rfl, fun j hj => ?_, rfl⟩
        · exact leh trivial
        · rcases Nat.lt_succ_iff_lt_or_eq.1 hj with h | rfl
          · exact hbef j h
          · exact hl2
    · have e : firstAt (fun s => !leadsN xs xs.length s) ys = -1 := firstAt_none (d := ET.bset.dflt) fun j hj => by show (!leadsN xs xs.length (ys.getD j ET.bset.dflt)) = false; rw [hbef j (by omega)]; rfl
      refine goh trivial ?_
      exact finh [some 0] e
  · simp [no, ifp] at hp
@[go_sem] noncomputable def ctHasBad : Ct := ⟨true, [[some .bset]], fun args os => match args, os with
  | [.one (.isl .bset ys), .one (.fn 263 [(0, 0)])], [.cells [.isl .bset xs]] => ifp (xs.length ≤ 4000000 ∧ ys.length ≤ 4000000) (vb (ys.any (fun s => !leadsN xs xs.length s)))
  | _, _ => no⟩
theorem s_hasBad_e : EnterOk Tryz.prog 262 := ⟨_, Tryz.func262, rfl, by decide⟩
@[go_sem] def s_hasBad_lv : List (List Nat) := [[0, 1], [4]]
@[go_sem] noncomputable def s_hasBad_K : Known := (Known.nil).cons 286 ctIndexBad s_indexBad s_indexBad_e
set_option maxHeartbeats 8000000 in
theorem s_hasBad : Sound Tryz.prog 262 ctHasBad := by
  have ke := s_hasBad_K.env []
  have kl : Lives s_hasBad_lv := trivial
  refine sound_intro (E := ⟨ti, s_hasBad_K.Γ, []⟩) ke Tryz.func262 Tryz.ntmps262 rfl (rs := [.tmp 4]) rfl ?_
  intro args os hp
  unfold ctHasBad at hp ⊢
  dsimp only at hp ⊢
  split at hp
  · rename_i ys xs
    refine ⟨by simp, fun φ0 w0 => ?_⟩
    obtain ⟨hx, hlen⟩ : xs.length ≤ 4000000 ∧ ys.length ≤ 4000000 := hp
    refine goh trivial ?_
    refine ⟨by (simp only [go_sem, ↓reduceIte, reduceCtorEq, Nat.reduceAdd, Nat.reduceLT, Nat.reduceLeDiff, Nat.reduceEqDiff]) <;> trivial, [some 0], ?_⟩
    all_goals try simp only [go_sem, inj_r, ↓reduceIte, reduceCtorEq, Nat.reduceAdd, Nat.reduceLT, Nat.reduceLeDiff, Nat.reduceEqDiff, Int.reduceEq]
    all_goals (repeat' refine And.intro ?_ ?_) <;> try exact shut7
    exact firstAt_ge _ _
  · simp [no, ifp] at hp
@[go_sem] noncomputable def ctBookOk : Ct := ⟨false, [[some .bset]], fun args os => match args, os with
  | [.agg [.isl .bset xs]], [] => ifp (xs.length ≤ 4000000 ∧ ∀ i : Nat, (xs.getD i ET.bset.dflt).name.size ≤ 9223372036854775807) (vb (bookB xs))
  | _, _ => no⟩
@[go_sem] def sgBookOk (xs : List BSet) (i : Nat) : Sg := ⟨[(1, .one (.ptr 0 0)), (10, .one (.isl .bset xs)), (11, vi xs.length), (12, vi i)], [some (.cells [.isl .bset xs])], []⟩
theorem s_bookOk_e : EnterOk Tryz.prog 224 := ⟨_, Tryz.func224, rfl, by decide⟩
@[go_sem] def s_bookOk_lv : List (List Nat) := [[1], [1, 8], [2], [1, 10, 11, 12], [1, 10, 11, 12, 13], [1, 3, 4, 10, 11, 12], [1, 10, 11, 12, 51], [2], [1, 10, 11, 12], [2]]
@[go_sem] noncomputable def s_bookOk_K : Known := (((((Known.nil).cons 127 ctName s_bookName s_bookName_e).cons 162 ctHas24 s_has24 s_has24_e).cons 261 ctLong24 s_long24 s_long24_e).cons 262 ctHasBad s_hasBad s_hasBad_e).cons 263 ctBadSet s_badSet s_badSet_e
set_option maxHeartbeats 8000000 in
theorem s_bookOk : Sound Tryz.prog 224 ctBookOk := by
  have ke := s_bookOk_K.env []
  have kl : Lives s_bookOk_lv := trivial
  refine sound_intro (E := ⟨ti, s_bookOk_K.Γ, []⟩) ke Tryz.func224 Tryz.ntmps224 rfl (rs := [.tmp 2]) rfl ?_
  intro args os hp
  unfold ctBookOk at hp ⊢
  dsimp only at hp ⊢
  split at hp
  · rename_i xs
    refine ⟨by simp, fun φ0 w0 => ?_⟩
    obtain ⟨hlen, hsz⟩ : xs.length ≤ 4000000 ∧ ∀ i : Nat, (xs.getD i ET.bset.dflt).name.size ≤ 9223372036854775807 := hp
    refine goh trivial ?_
    refine W_cnd ?_ ?_ <;> (try simp only [cnd_r]) <;> intro hc
    · have e : bookB xs = false := bookB_false.2 fun h => by have := h.few; omega
      refine goh trivial ?_
      exact finh [] e
    · refine goh trivial ?_
      refine W_le (σ' := sgBookOk xs 0) [some 0] (by
        simp only [go_sem, inj_r, ↓reduceIte, reduceCtorEq, Nat.reduceAdd, Nat.reduceLT, Nat.reduceLeDiff, Nat.reduceEqDiff, Int.reduceEq]
        all_goals (repeat' refine And.intro ?_ ?_) <;> try exact shut7
        ) ?_
      refine W_loop (fun q σ => ∃ i : Nat, i ≤ xs.length ∧ q = xs.length - i ∧ (∀ j, j < i → SetOk xs j) ∧ σ = sgBookOk xs i) xs.length ⟨0, by omega, by omega, by omega, rfl⟩ ?_
      rintro q σ ⟨i, hi, rfl, hbef, rfl⟩
      unfold sgBookOk
      refine goh trivial ?_
      refine W_cnd ?_ ?_ <;> (try simp only [cnd_r]) <;> intro hlt
      · have hsz1 := hsz i
        have w1 : IntKind.i64.wrap ((i : Int) - 1) = (i : Int) - 1 := wrap_id _ (by omega) (by omega)
        have ht : ((i : Int) - 1).toNat = i - 1 := by omega
        refine goh (And.intro w1 ht) ?_
        refine W_cond _ (by exact rfl) (by exact trivial) ?_ ?_ <;> intro hb
        · have e : bookB xs = false := bookB_false.2 fun h => by
            obtain ⟨h1, h2, h3, h4⟩ := h.each i (by omega)
            unfold lessB at h2
            unfold big8 at h4
            simp only [List.any_cons, List.any_nil, Bool.or_false] at h4
            have hx := (bad_expr _ _ _ _ _ _).2 ⟨h1, fun hp : (i : Int) > 0 => h2 (by omega), (show ((xs.getD i ET.bset.dflt).kind != 1) = false ∨ ((xs.getD i ET.bset.dflt).kind != 2) = false from h3.elim (fun h => .inl (by rw [h]; rfl)) (fun h => .inr (by rw [h]; rfl))), h4⟩
            rw [hx] at hb
            cases hb
          refine goh trivial ?_
          exact finh [] e
        · obtain ⟨h1, h2, h3, h4⟩ := (bad_expr _ _ _ _ _ _).1 hb
          have h3' : (xs.getD i ET.bset.dflt).kind = 1 ∨ (xs.getD i ET.bset.dflt).kind = 2 := by
            rcases h3 with h | h
            · exact .inl (by simpa only [bne_eq_false_iff_eq] using h)
            · exact .inr (by simpa only [bne_eq_false_iff_eq] using h)
          have h4' : big8 (xs.getD i ET.bset.dflt) = false := by
            unfold big8
            simp only [List.any_cons, List.any_nil, Bool.or_false]
            exact h4
          have hs : SetOk xs i := ⟨h1, fun hp => h2 (by omega), h3', h4'⟩
          refine goh trivial ?_
          refine ⟨xs.length - (i + 1), [some 0], sgBookOk xs (i + 1), by omega, ?_, i + 1, by omega, rfl, fun j hj => ?_, rfl⟩
          · exact leh trivial
          · rcases Nat.lt_succ_iff_lt_or_eq.1 hj with h | rfl
            · exact hbef j h
            · exact hs
      · have e : bookB xs = !xs.any (fun s => !leadsN xs xs.length s) := by
          cases ha : xs.any (fun s => !leadsN xs xs.length s) with
          | false => exact bookB_true.2 ⟨by omega, fun i hi => hbef i (by omega), ha⟩
          | true => exact bookB_false.2 fun h => by rw [h.leads] at ha; cases ha
        refine goh trivial ?_
        exact finh [] e
  · simp [no, ifp] at hp
end Go.Proofs.YtjedcphhajlnoaaGreatDoor
/- Plain facts: books in order. -/
namespace Go.Proofs.YtjedcphhajlnoaaGreatDoor
open Go.RowKit

theorem bl_irrefl : ∀ x : List UInt8, Op.bytesLess x x = false
  | [] => rfl
  | a :: x => by
    show (decide (a < a) || (a == a && Op.bytesLess x x)) = false
    rw [bl_irrefl x]; simp
theorem bl_trans : ∀ x y z : List UInt8, Op.bytesLess x y = true → Op.bytesLess y z = true → Op.bytesLess x z = true
  | [], [], z, h, _ => by simp [Op.bytesLess] at h
  | [], b :: y, [], _, h => by simp [Op.bytesLess] at h
  | [], b :: y, c :: z, _, _ => rfl
  | a :: x, [], z, h, _ => by simp [Op.bytesLess] at h
  | a :: x, b :: y, [], _, h => by simp [Op.bytesLess] at h
  | a :: x, b :: y, c :: z, h1, h2 => by
    simp only [Op.bytesLess, Bool.or_eq_true, Bool.and_eq_true, decide_eq_true_eq, beq_iff_eq] at h1 h2 ⊢
    rcases h1 with h1 | ⟨rfl, h1⟩
    · rcases h2 with h2 | ⟨rfl, h2⟩
      · exact .inl (by rw [UInt8.lt_iff_toNat_lt] at *; omega)
      · exact .inl h1
    · rcases h2 with h2 | ⟨rfl, h2⟩
      · exact .inl h2
      · exact .inr ⟨rfl, bl_trans x y z h1 h2⟩
theorem bl_total : ∀ x y : List UInt8, Op.bytesLess x y = true ∨ x = y ∨ Op.bytesLess y x = true
  | [], [] => .inr (.inl rfl)
  | [], _ :: _ => .inl rfl
  | _ :: _, [] => .inr (.inr rfl)
  | a :: x, b :: y => by
    simp only [Op.bytesLess, Bool.or_eq_true, Bool.and_eq_true, decide_eq_true_eq, beq_iff_eq]
    by_cases h : a < b
    · exact .inl (.inl h)
    · by_cases h2 : b < a
      · exact .inr (.inr (.inl h2))
      · have e : a = b := by
          rw [UInt8.lt_iff_toNat_lt] at h h2
          exact UInt8.toNat_inj.1 (by omega)
        subst e
        rcases bl_total x y with h3 | rfl | h3
        · exact .inl (.inr ⟨rfl, h3⟩)
        · exact .inr (.inl rfl)
        · exact .inr (.inr (.inr ⟨rfl, h3⟩))
theorem toList_inj {a b : ByteArray} (h : a.toList = b.toList) : a = b := by
  have := toList_same a b
  rw [h, beq_self_eq_true] at this
  exact same_true.1 this.symm
theorem less_irrefl (a : ByteArray) : lessB a a = false := bl_irrefl _
theorem less_trans {a b c : ByteArray} (h1 : lessB a b = true) (h2 : lessB b c = true) : lessB a c = true := bl_trans _ _ _ h1 h2
theorem less_total (a b : ByteArray) : lessB a b = true ∨ a = b ∨ lessB b a = true := by
  rcases bl_total a.toList b.toList with h | h | h
  · exact .inl h
  · exact .inr (.inl (toList_inj h))
  · exact .inr (.inr h)
/-- One name after the other. -/
structure Sorted (xs : List BSet) : Prop where
  next : ∀ i, 0 < i → i < xs.length → lessB (xs.getD (i - 1) ET.bset.dflt).name (xs.getD i ET.bset.dflt).name = true
theorem Sorted.lt {xs : List BSet} (h : Sorted xs) (i : Nat) : ∀ d, i + d + 1 < xs.length → lessB (xs.getD i ET.bset.dflt).name (xs.getD (i + d + 1) ET.bset.dflt).name = true
  | 0, hd => h.next (i + 1) (by omega) hd
  | d + 1, hd => less_trans (h.lt i d (by omega)) (h.next (i + (d + 1) + 1) (by omega) hd)
/-- How many names stand ahead. -/
def lowN (xs : List BSet) (name : ByteArray) : Nat := xs.findIdx fun s => !lessB s.name name
noncomputable def thereB (xs : List BSet) (name : ByteArray) : Bool := decide (lowN xs name < xs.length) && same (xs.getD (lowN xs name) ET.bset.dflt).name name
theorem lowN_le (xs : List BSet) (name : ByteArray) : lowN xs name ≤ xs.length := List.findIdx_le_length
theorem lowN_before {xs : List BSet} {name : ByteArray} {i : Nat} (h : i < lowN xs name) : lessB (xs.getD i ET.bset.dflt).name name = true := by
  have hl := lowN_le xs name
  have h1 := List.not_of_lt_findIdx (p := fun s : BSet => !lessB s.name name) h
  have h2 : xs.getD i ET.bset.dflt = xs[i]'(by omega) := by simp [show i < xs.length by omega]
  rw [h2]; simpa using h1
theorem lowN_at {xs : List BSet} {name : ByteArray} (h : lowN xs name < xs.length) : lessB (xs.getD (lowN xs name) ET.bset.dflt).name name = false := by
  have h1 := List.findIdx_getElem (p := fun s : BSet => !lessB s.name name) (w := h)
  have h2 : xs.getD (lowN xs name) ET.bset.dflt = xs[lowN xs name]'h := by simp [h]
  rw [h2]
  have h3 : (!lessB (xs[lowN xs name]'h).name name) = true := h1
  simpa using h3
theorem lowN_eq {xs : List BSet} {name : ByteArray} {i : Nat} (hi : i ≤ xs.length) (hb : ∀ j, j < i → lessB (xs.getD j ET.bset.dflt).name name = true) (hs : i = xs.length ∨ lessB (xs.getD i ET.bset.dflt).name name = false) : lowN xs name = i := by
  have hl := lowN_le xs name
  rcases Nat.lt_trichotomy (lowN xs name) i with h | h | h
  · have h1 := hb _ h
    rw [lowN_at (by omega)] at h1; cases h1
  · exact h
  · have h1 := lowN_before h
    rcases hs with hs | hs
    · omega
    · rw [hs] at h1; cases h1
/-- In order: the two ways to look a name up agree. -/
theorem at_low {xs : List BSet} (h : Sorted xs) (name : ByteArray) : (thereB xs name = true → atB xs name = lowN xs name) ∧ (thereB xs name = false → atB xs name < 0) := by
  have hl := lowN_le xs name
  constructor
  · intro ht
    unfold thereB at ht
    rw [Bool.and_eq_true, decide_eq_true_eq, same_true] at ht
    refine firstAt_some (d := ET.bset.dflt) ht.1 (fun j hj => ?_) (same_true.2 ht.2)
    rw [same_false]
    intro he
    have := lowN_before hj
    rw [he, less_irrefl] at this; cases this
  · intro ht
    have e : atB xs name = -1 := firstAt_none (d := ET.bset.dflt) fun j hj => by
      rw [same_false]
      intro he
      rcases Nat.lt_trichotomy j (lowN xs name) with hlt | hlt | hlt
      · have := lowN_before hlt
        rw [he, less_irrefl] at this; cases this
      · subst hlt
        have : thereB xs name = true := by
          unfold thereB
          rw [Bool.and_eq_true, decide_eq_true_eq, same_true]; exact ⟨hj, he⟩
        rw [this] at ht; cases ht
      · have h1 := lowN_at (xs := xs) (name := name) (by omega)
        have h2 := h.lt (lowN xs name) (j - lowN xs name - 1) (by omega)
        rw [show lowN xs name + (j - lowN xs name - 1) + 1 = j by omega, he] at h2
        rw [h2] at h1; cases h1
    rw [e]; decide
theorem pigeon : ∀ (n : Nat) (l : List Nat), l.Nodup → (∀ j ∈ l, j < n) → l.length ≤ n
  | 0, l, _, h => by
    cases l with
    | nil => exact Nat.le_refl _
    | cons a r => exact absurd (h a (by simp)) (Nat.not_lt_zero _)
  | n + 1, l, hd, h => by
    have h1 := pigeon n (l.erase n) (hd.erase n) (fun j hj => by
      have h2 := h j (List.mem_of_mem_erase hj)
      have h3 : j ≠ n := fun e => by subst e; exact hd.not_mem_erase hj
      omega)
    have h2 := List.length_erase (a := n) (l := l)
    split at h2 <;> omega
theorem leads_mono (xs : List BSet) : ∀ (n : Nat) (s : BSet), leadsN xs n s = true → leadsN xs (n + 1) s = true
  | 0, s, h => by simp [leadsN] at h
  | n + 1, s, h => by
    unfold leadsN at h ⊢
    split
    · rename_i hf; rw [if_pos hf] at h; exact h
    · rename_i hf
      rw [if_neg hf] at h
      split
      · rename_i hk; rw [if_pos hk] at h; exact h
      · rename_i hk
        rw [if_neg hk] at h
        exact leads_mono xs n _ h
theorem setOf_at (xs : List BSet) (name : ByteArray) (h : ¬ atB xs name < 0) : (atB xs name).toNat < xs.length := by
  unfold atB firstAt at h ⊢
  split at h
  · rename_i i hi
    rw [List.findIdx?_eq_some_iff_getElem] at hi
    obtain ⟨hi, -⟩ := hi
    simpa using hi
  · exact absurd (by decide) h
/-- Who needs so many rounds has so many sets ahead. -/
theorem leads_chain (xs : List BSet) : ∀ (m k : Nat), k < xs.length → leadsN xs (m + 1) (xs.getD k ET.bset.dflt) = true → leadsN xs m (xs.getD k ET.bset.dflt) = false →
    ∃ l : List Nat, l.length = m + 1 ∧ l.Nodup ∧ ∀ j ∈ l, j < xs.length ∧ leadsN xs (m + 1) (xs.getD j ET.bset.dflt) = true
  | 0, k, hk, h1, _ => ⟨[k], rfl, by simp, fun j hj => by rw [List.mem_singleton] at hj; subst hj; exact ⟨hk, h1⟩⟩
  | m + 1, k, hk, h1, h2 => by
    have h1' := h1
    have h2' := h2
    unfold leadsN at h1 h2
    by_cases hf : same (xs.getD k ET.bset.dflt).from_ ⟨#[]⟩ = true
    · rw [if_pos hf] at h1 h2
      rw [h1] at h2; cases h2
    · rw [if_neg hf] at h1 h2
      by_cases hc : atB xs (xs.getD k ET.bset.dflt).from_ < 0 ∨ (setOf xs (xs.getD k ET.bset.dflt).from_).kind = (xs.getD k ET.bset.dflt).kind
      · rw [if_pos hc] at h1; cases h1
      · rw [if_neg hc] at h1 h2
        have hj := setOf_at xs (xs.getD k ET.bset.dflt).from_ fun h => hc (.inl h)
        obtain ⟨l, l1, l2, l3⟩ := leads_chain xs m (atB xs (xs.getD k ET.bset.dflt).from_).toNat hj h1 h2
        refine ⟨k :: l, by simp [l1], ?_, fun j hj => ?_⟩
        · rw [List.nodup_cons]
          refine ⟨fun hm => ?_, l2⟩
          have := (l3 k hm).2
          rw [h2'] at this; cases this
        · rcases List.mem_cons.1 hj with rfl | hm
          · exact ⟨hk, h1'⟩
          · exact ⟨(l3 j hm).1, leads_mono xs _ _ (l3 j hm).2⟩
/-- One round more says no more. -/
theorem leads_more (xs : List BSet) (k : Nat) (hk : k < xs.length) : leadsN xs (xs.length + 1) (xs.getD k ET.bset.dflt) = leadsN xs xs.length (xs.getD k ET.bset.dflt) := by
  cases h : leadsN xs xs.length (xs.getD k ET.bset.dflt) with
  | true => exact leads_mono xs _ _ h
  | false =>
    rw [← Bool.not_eq_true]
    intro h2
    obtain ⟨l, l1, l2, l3⟩ := leads_chain xs xs.length k hk h2 h
    have := pigeon xs.length l l2 fun j hj => (l3 j hj).1
    omega
theorem there_lt {xs : List BSet} {name : ByteArray} (h : thereB xs name = true) : lowN xs name < xs.length ∧ (xs.getD (lowN xs name) ET.bset.dflt).name = name := by
  unfold thereB at h
  rw [Bool.and_eq_true, decide_eq_true_eq, same_true] at h
  exact h
theorem book_sorted {xs : List BSet} (h : BookP xs) : Sorted xs := ⟨fun i h0 hi => (h.each i hi).less h0⟩
end Go.Proofs.YtjedcphhajlnoaaGreatDoor
/- Functions: valid books, the reference's. -/
namespace Go.Proofs.YtjedcphhajlnoaaGreatDoor
open Go.RowKit

@[go_sem] noncomputable def ctAt : Ct := ⟨false, [[some .bset]], fun args os => match args, os with
  | [.agg [.isl .bset xs], .one (.val (.string name))], [] => ifp (xs.length ≤ 4000000) (.tup [vi (lowN xs name), vb (thereB xs name)])
  | _, _ => no⟩
@[go_sem] def sgAt (xs : List BSet) (name : ByteArray) (k : Nat) : Sg := ⟨[(1, vs name), (2, .one (.ptr 0 0)), (6, vi k)], [some (.cells [.isl .bset xs])], []⟩
theorem s_l4At_e : EnterOk Tryz.prog 73 := ⟨_, Tryz.func73, rfl, by decide⟩
@[go_sem] def s_l4At_lv : List (List Nat) := [[1, 2], [1, 2, 6], [1, 2, 6, 21], [1, 2, 6], [4, 5]]
@[go_sem] noncomputable def s_l4At_K : Known := Known.nil
set_option maxHeartbeats 8000000 in
theorem s_l4At : Sound Tryz.prog 73 ctAt := by
  have ke := s_l4At_K.env []
  have kl : Lives s_l4At_lv := trivial
  refine sound_intro (E := ⟨ti, s_l4At_K.Γ, []⟩) ke Tryz.func73 Tryz.ntmps73 rfl (rs := [.tmp 4, .tmp 5]) rfl ?_
  intro args os hp
  unfold ctAt at hp ⊢
  dsimp only at hp ⊢
  split at hp
  · rename_i xs name
    refine ⟨by simp, fun φ0 w0 => ?_⟩
    have hlen : xs.length ≤ 4000000 := hp
    refine goh trivial ?_
    refine W_le (σ' := sgAt xs name 0) [some 0] (by
      simp only [go_sem, inj_r, ↓reduceIte, reduceCtorEq, Nat.reduceAdd, Nat.reduceLT, Nat.reduceLeDiff, Nat.reduceEqDiff, Int.reduceEq]
      all_goals (repeat' refine And.intro ?_ ?_) <;> try exact shut7
      ) ?_
    refine W_loop (fun q σ => ∃ k : Nat, k ≤ xs.length ∧ q = xs.length - k ∧ (∀ j, j < k → lessB (xs.getD j ET.bset.dflt).name name = true) ∧ σ = sgAt xs name k) xs.length ⟨0, by omega, by omega, by omega, rfl⟩ ?_
    rintro q σ ⟨k, hk, rfl, hbef, rfl⟩
    unfold sgAt
    refine goh trivial ?_
    refine W_cond _ (by exact rfl) (by exact trivial) ?_ ?_ <;> intro hc
    · have hc2 : k < xs.length ∧ lessB (xs.getD k ET.bset.dflt).name name = true := by
        unfold lessB
        simpa using hc
      refine goh trivial ?_
      refine ⟨xs.length - (k + 1), [some 0], sgAt xs name (k + 1), by omega, ?_, k + 1, by omega, rfl, fun j hj => ?_, rfl⟩
      · exact leh trivial
      · rcases Nat.lt_succ_iff_lt_or_eq.1 hj with h | rfl
        · exact hbef j h
        · exact hc2.2
    · have hs : k = xs.length ∨ lessB (xs.getD k ET.bset.dflt).name name = false := by
        by_cases h : k < xs.length
        · right
          unfold lessB
          have h2 : (k : Int) < xs.length := by omega
          simpa [h2] using hc
        · left; omega
      have e := lowN_eq hk hbef hs
      refine goh trivial ?_
      refine ⟨by (simp only [go_sem, e, ↓reduceIte, reduceCtorEq, Nat.reduceAdd, Nat.reduceLT, Nat.reduceLeDiff, Nat.reduceEqDiff]) <;> trivial, [], ?_⟩
      all_goals try simp only [go_sem, e, inj_r, ↓reduceIte, reduceCtorEq, Nat.reduceAdd, Nat.reduceLT, Nat.reduceLeDiff, Nat.reduceEqDiff, Int.reduceEq]
      all_goals (repeat' refine And.intro ?_ ?_) <;> try exact shut7
      unfold thereB
      rw [e]
      by_cases h : (k : Int) < xs.length
      · rw [if_pos h, decide_eq_true (show k < xs.length by omega), Bool.true_and]
      · rw [if_neg h, decide_eq_false (show ¬ k < xs.length by omega), Bool.false_and]
  · simp [no, ifp] at hp
@[go_sem] noncomputable def ctRoots : Ct := ⟨false, [[some .bset], []], fun args os => match args, os with
  | [.agg [.isl .bset xs], .agg cs], [] => (match bsetOf cs with | some s => ifp (xs.length ≤ 4000000 ∧ Sorted xs) (vb (leadsN xs (xs.length + 1) s)) | none => no)
  | _, _ => no⟩
@[go_sem] def sgRoots (xs : List BSet) (s : BSet) (i : Nat) : Sg := ⟨[(2, .one (.ptr 0 0)), (3, .one (.ptr 1 0)), (5, vi i)], [some (.cells [.isl .bset xs]), some (.cells ((ET.bset.cells s).map .val))], []⟩
theorem s_roots_e : EnterOk Tryz.prog 212 := ⟨_, Tryz.func212, rfl, by decide⟩
@[go_sem] def s_roots_lv : List (List Nat) := [[2, 3], [2, 3, 5], [2, 3, 5, 12], [2, 3, 5], [2, 3, 5, 17], [4], [2, 3, 5, 6, 7], [2, 3, 5, 6, 40], [4], [2, 3, 5], [4]]
@[go_sem] noncomputable def s_roots_K : Known := (Known.nil).cons 73 ctAt s_l4At s_l4At_e
set_option maxHeartbeats 8000000 in
theorem s_roots : Sound Tryz.prog 212 ctRoots := by
  have ke := s_roots_K.env []
  have kl : Lives s_roots_lv := trivial
  refine sound_intro (E := ⟨ti, s_roots_K.Γ, []⟩) ke Tryz.func212 Tryz.ntmps212 rfl (rs := [.tmp 4]) rfl ?_
  intro args os hp
  unfold ctRoots at hp ⊢
  dsimp only at hp ⊢
  split at hp
  · rename_i xs cs
    split at hp
    · rename_i s0 hs0
      obtain rfl := bsetOf_some hs0
      obtain ⟨hlen, hso⟩ : xs.length ≤ 4000000 ∧ Sorted xs := hp
      clear hs0
      refine ⟨by simp, fun φ0 w0 => ?_⟩
      obtain ⟨R, hR⟩ : ∃ R, leadsN xs (xs.length + 1) s0 = R := ⟨_, rfl⟩
      refine goh trivial ?_
      refine W_le (σ' := sgRoots xs s0 0) [some 0, some 1] (by
        simp only [go_sem, inj_r, ↓reduceIte, reduceCtorEq, Nat.reduceAdd, Nat.reduceLT, Nat.reduceLeDiff, Nat.reduceEqDiff, Int.reduceEq]
        all_goals (repeat' refine And.intro ?_ ?_) <;> try exact shut7
        ) ?_
      refine W_loop (fun q σ => ∃ (i : Nat) (s : BSet), i ≤ xs.length + 1 ∧ q = xs.length + 1 - i ∧ leadsN xs (xs.length + 1 - i) s = R ∧ σ = sgRoots xs s i) (xs.length + 1) ⟨0, s0, by omega, by omega, hR, rfl⟩ ?_
      rintro q σ ⟨i, s, hi, rfl, hs, rfl⟩
      unfold sgRoots
      refine goh trivial ?_
      refine W_cnd ?_ ?_ <;> (try simp only [cnd_r]) <;> intro hlt
      · obtain ⟨m, hm⟩ : ∃ m, xs.length + 1 - i = m + 1 := ⟨xs.length - i, by omega⟩
        rw [hm] at hs
        unfold leadsN at hs
        refine goh trivial ?_
        refine W_cond _ (by exact rfl) (by exact trivial) ?_ ?_ <;> intro hf
        · rw [if_pos hf] at hs
          have e : leadsN xs (xs.length + 1) s0 = (s.kind == 1) := by rw [hR, ← hs]
          refine goh trivial ?_
          exact finh [] e
        · rw [if_neg (by rw [hf]; decide)] at hs
          obtain ⟨a1, a2⟩ := at_low hso s.from_
          cases ht : thereB xs s.from_ with
          | false =>
            have e : leadsN xs (xs.length + 1) s0 = false := by rw [hR, ← hs, if_pos (.inl (a2 ht))]
            repeat' first
              | with_reducible refine red ?_
              | refine W_seq ?_
              | (refine W_reg (s_roots_K.env []) s_roots_lv fun K' hK' => ?_
                 simp only [go_sem, ht, Bool.not_false, Bool.not_true, Bool.false_eq_true, ↓reduceIte, ↓reduceDIte, reduceCtorEq, Nat.reduceAdd, Nat.reduceMul, Nat.reduceSub, Nat.reduceDiv, Nat.reduceMod, Nat.reduceLT, Nat.reduceLeDiff, Nat.reduceEqDiff, Nat.reduceBEq, Int.reduceToNat, Int.reduceLE, Int.reduceLT, Int.reduceEq, Int.reduceNe, Int.reduceNeg]
                 (repeat' refine And.intro ?_ ?_) <;> try first | with_reducible refine hK' ?_ | exact shut6)
              | with_reducible refine blockG_o (by decide) ?_
            all_goals try (intro hgd; cases hgd; done)
            refine W_cnd ?_ ?_ <;> intro hlit <;> try (cases hlit; done)
            refine goh trivial ?_
            exact finh [] e
          | true =>
            have hat := a1 ht
            have hlow : lowN xs s.from_ < xs.length := by
              unfold thereB at ht
              rw [Bool.and_eq_true, decide_eq_true_eq] at ht
              exact ht.1
            have hset : setOf xs s.from_ = xs.getD (lowN xs s.from_) ET.bset.dflt := by unfold setOf; rw [hat]; rfl
            rw [hat, hset] at hs
            refine goh ht ?_
            refine W_cnd ?_ ?_ <;> (try simp only [cnd_r]) <;> intro hc
            · have e : leadsN xs (xs.length + 1) s0 = false := by rw [hR, ← hs, if_pos (.inr hc)]
              refine goh trivial ?_
              exact finh [] e
            · have hc2 : ¬ (xs.getD (lowN xs s.from_) ET.bset.dflt).kind = s.kind := by
                first | exact hc | (rw [beq_eq_false_iff_ne] at hc; exact hc)
              rw [if_neg (fun h => h.elim (by omega) hc2)] at hs
              refine goh trivial ?_
              refine ⟨xs.length + 1 - (i + 1), [some 0, some 1], sgRoots xs (xs.getD (lowN xs s.from_) ET.bset.dflt) (i + 1), by omega, ?_, i + 1, _, by omega, rfl, ?_, rfl⟩
              · exact leh trivial
              · rw [show xs.length + 1 - (i + 1) = m by omega]; exact hs
      · have h0 : xs.length + 1 - i = 0 := by omega
        rw [h0] at hs
        have e : leadsN xs (xs.length + 1) s0 = false := by rw [hR, ← hs]; rfl
        refine goh trivial ?_
        exact finh [] e
    · simp [no] at hp
  · simp [no] at hp
end Go.Proofs.YtjedcphhajlnoaaGreatDoor
/- Functions: valid books, the reference's, on. -/
namespace Go.Proofs.YtjedcphhajlnoaaGreatDoor
open Go.RowKit

def blk8 (x : BSet) : List ByteArray := [x.blocks.x0, x.blocks.x1, x.blocks.x2, x.blocks.x3, x.blocks.x4, x.blocks.x5, x.blocks.x6, x.blocks.x7]
@[go_sem] def sgSb (xs : List BSet) (i : Nat) : Sg := ⟨[(1, .one (.ptr 0 0)), (3, vi i)], [some (.cells [.isl .bset xs])], []⟩
@[go_sem] def sgSj (xs : List BSet) (s : BSet) (i j : Nat) : Sg := ⟨[(1, .one (.ptr 0 0)), (3, vi i), (4, .one (.ptr 1 0)), (5, vi j)], [some (.cells [.isl .bset xs]), some (.cells ((ET.bset.cells s).map .val))], []⟩
@[go_sem] def sgSr2 (xs : List BSet) (i : Nat) : Sg := ⟨[(1, .one (.ptr 0 0)), (6, vi i)], [some (.cells [.isl .bset xs])], []⟩
theorem bad2 (A B G1 G2 : Bool) (P : Prop) [Decidable P] : (if (if (if (!A) = true then true else if P then B else false) = true then true else G1) = true then true else G2) = false ↔ A = true ∧ (P → B = false) ∧ G1 = false ∧ G2 = false := by
  by_cases h : P <;> cases A <;> cases B <;> cases G1 <;> cases G2 <;> simp [h]
theorem less_or (s p : ByteArray) : (Op.bytesLess s.toList p.toList || same s p) = false ↔ lessB p s = true := by
  rw [Bool.or_eq_false_iff, same_false]
  constructor
  · rintro ⟨h1, h2⟩
    rcases less_total s p with h | h | h
    · unfold lessB at h; rw [h] at h1; cases h1
    · exact absurd h h2
    · exact h
  · intro h
    refine ⟨?_, fun he => ?_⟩
    · rw [← Bool.not_eq_true]
      intro h2
      have := less_trans h h2
      rw [less_irrefl] at this; cases this
    · rw [he, less_irrefl] at h; cases h
theorem sorted_of {xs : List BSet} (h : ∀ j, j < xs.length → SetOk xs j) : Sorted xs := ⟨fun i h0 hi => (h i hi).less h0⟩
theorem s_specBookOk_e : EnterOk Tryz.prog 151 := ⟨_, Tryz.func151, rfl, by decide⟩
@[go_sem] def s_specBookOk_lv : List (List Nat) := [[1], [1, 10], [2], [1, 3], [1, 3, 15], [1, 3], [1, 3, 4], [1, 3, 4, 52], [2], [1, 3, 4, 5], [1, 3, 4, 5, 54], [1, 3, 4, 5], [1, 3, 4, 5, 62], [2], [1, 6], [1, 6, 67], [1, 6], [1, 6, 77], [2], [2]]
@[go_sem] noncomputable def s_specBookOk_K : Known := ((Known.nil).cons 132 ctName s_specName s_specName_e).cons 212 ctRoots s_roots s_roots_e
set_option maxHeartbeats 8000000 in
theorem s_specBookOk : Sound Tryz.prog 151 ctBookOk := by
  have ke := s_specBookOk_K.env []
  have kl : Lives s_specBookOk_lv := trivial
  refine sound_intro (E := ⟨ti, s_specBookOk_K.Γ, []⟩) ke Tryz.func151 Tryz.ntmps151 rfl (rs := [.tmp 2]) rfl ?_
  intro args os hp
  unfold ctBookOk at hp ⊢
  dsimp only at hp ⊢
  split at hp
  · rename_i xs
    refine ⟨by simp, fun φ0 w0 => ?_⟩
    obtain ⟨hlen, hsz⟩ : xs.length ≤ 4000000 ∧ ∀ i : Nat, (xs.getD i ET.bset.dflt).name.size ≤ 9223372036854775807 := hp
    refine goh trivial ?_
    refine W_cnd ?_ ?_ <;> (try simp only [cnd_r]) <;> intro hc
    · have e : bookB xs = false := bookB_false.2 fun h => by have := h.few; omega
      refine goh trivial ?_
      exact finh [] e
    · refine goh trivial ?_
      refine W_le (σ' := sgSb xs 0) [some 0] (by
        simp only [go_sem, inj_r, ↓reduceIte, reduceCtorEq, Nat.reduceAdd, Nat.reduceLT, Nat.reduceLeDiff, Nat.reduceEqDiff, Int.reduceEq]
        all_goals (repeat' refine And.intro ?_ ?_) <;> try exact shut7
        ) ?_
      refine W_loop (fun q σ => ∃ i : Nat, i ≤ xs.length ∧ q = xs.length - i ∧ (∀ j, j < i → SetOk xs j) ∧ σ = sgSb xs i) xs.length ⟨0, by omega, by omega, by omega, rfl⟩ ?_
      rintro q σ ⟨i, hi, rfl, hbef, rfl⟩
      unfold sgSb
      refine goh trivial ?_
      refine W_cnd ?_ ?_ <;> (try simp only [cnd_r]) <;> intro hlt
      · have hsz1 := hsz i
        have w1 : IntKind.i64.wrap ((i : Int) - 1) = (i : Int) - 1 := wrap_id _ (by omega) (by omega)
        have ht : ((i : Int) - 1).toNat = i - 1 := by omega
        refine goh (And.intro w1 ht) ?_
        refine W_cond _ (by exact rfl) (by exact trivial) ?_ ?_ <;> intro hb
        · have e : bookB xs = false := bookB_false.2 fun h => by
            obtain ⟨h1, h2, h3, -⟩ := h.each i (by omega)
            have hx := (bad2 _ _ _ _ _).2 ⟨h1, fun hp : (i : Int) > 0 => (less_or _ _).2 (h2 (by omega)), (show decide ((xs.getD i ET.bset.dflt).kind < 1) = false by rw [decide_eq_false_iff_not]; omega), (show decide ((xs.getD i ET.bset.dflt).kind > 2) = false by rw [decide_eq_false_iff_not]; omega)⟩
            rw [hx] at hb
            cases hb
          refine goh trivial ?_
          exact finh [] e
        · obtain ⟨h1, h2, h3, h4⟩ := (bad2 _ _ _ _ _).1 hb
          rw [decide_eq_false_iff_not] at h3 h4
          obtain ⟨s, hs⟩ : ∃ s, xs.getD i ET.bset.dflt = s := ⟨_, rfl⟩
          refine goh trivial ?_
          refine W_le (σ' := sgSj xs (xs.getD i ET.bset.dflt) i 0) [some 0, some 1] (by
            simp only [go_sem, inj_r, ↓reduceIte, reduceCtorEq, Nat.reduceAdd, Nat.reduceLT, Nat.reduceLeDiff, Nat.reduceEqDiff, Int.reduceEq]
            all_goals (repeat' refine And.intro ?_ ?_) <;> try exact shut7
            ) ?_
          rw [hs] at h1 h2 h3 h4 ⊢
          refine W_loop (fun q σ => ∃ j : Nat, j ≤ 8 ∧ q = 8 - j ∧ ((blk8 s).take j).any long24 = false ∧ σ = sgSj xs s i j) 8 ⟨0, by omega, by omega, rfl, rfl⟩ ?_
          rintro q σ ⟨j, hj, rfl, hbl, rfl⟩
          unfold sgSj
          rcases (show j < 8 ∨ j = 8 by omega) with hj8 | hc8
          · rcases (show j = 0 ∨ j = 1 ∨ j = 2 ∨ j = 3 ∨ j = 4 ∨ j = 5 ∨ j = 6 ∨ j = 7 by omega) with hc8 | hc8 | hc8 | hc8 | hc8 | hc8 | hc8 | hc8
            all_goals
              refine goh hc8 ?_
              refine W_cnd ?_ ?_ <;> intro hlit <;> try (cases hlit; done)
              refine goh hc8 ?_
              refine W_cnd ?_ ?_ <;> (try simp only [cnd_r]) <;> intro hl
              · have hbig : big8 s = true := by
                  unfold big8
                  simp only [List.any_cons, List.any_nil, Bool.or_false, Bool.or_eq_true, long24, decide_eq_true_eq]
                  omega
                have e : bookB xs = false := bookB_false.2 fun h => by
                  have h5 := (h.each i (by omega)).small
                  rw [hs, hbig] at h5; cases h5
                refine goh trivial ?_
                exact finh [] e
              · refine goh hc8 ?_
                refine ⟨8 - (j + 1), [some 0, some 1], sgSj xs s i (j + 1), by omega, ?_, j + 1, by omega, rfl, ?_, rfl⟩
                · exact leh hc8
                · rw [hc8] at hbl ⊢
                  simp only [blk8, List.take_succ_cons, List.take_zero, List.any_cons, List.any_nil, Bool.or_false, Bool.or_eq_false_iff, long24, decide_eq_false_iff_not] at hbl ⊢
                  omega
          · rw [hc8] at hbl
            have hsm : big8 s = false := hbl
            have hset : SetOk xs i := ⟨by rw [hs]; exact h1, fun hp => by rw [hs]; exact (less_or _ _).1 (h2 (by omega)), by rw [hs]; omega, by rw [hs]; exact hsm⟩
            refine goh hc8 ?_
            refine W_cnd ?_ ?_ <;> intro hlit <;> try (cases hlit; done)
            refine goh trivial ?_
            refine ⟨xs.length - (i + 1), [some 0], sgSb xs (i + 1), by omega, ?_, i + 1, by omega, rfl, fun j hj => ?_, rfl⟩
            · exact leh trivial
            · rcases Nat.lt_succ_iff_lt_or_eq.1 hj with h | rfl
              · exact hbef j h
              · exact hset
      · refine goh trivial ?_
        refine W_le (σ' := sgSr2 xs 0) [some 0] (by
          simp only [go_sem, inj_r, ↓reduceIte, reduceCtorEq, Nat.reduceAdd, Nat.reduceLT, Nat.reduceLeDiff, Nat.reduceEqDiff, Int.reduceEq]
          all_goals (repeat' refine And.intro ?_ ?_) <;> try exact shut7
          ) ?_
        have hall : ∀ j, j < xs.length → SetOk xs j := fun j hj => hbef j (by omega)
        have hso := sorted_of hall
        refine W_loop (fun q σ => ∃ i : Nat, i ≤ xs.length ∧ q = xs.length - i ∧ (∀ j, j < i → leadsN xs xs.length (xs.getD j ET.bset.dflt) = true) ∧ σ = sgSr2 xs i) xs.length ⟨0, by omega, by omega, by omega, rfl⟩ ?_
        clear hbef hlt hi
        clear i
        rintro q σ ⟨i, hi, rfl, hbef, rfl⟩
        unfold sgSr2
        refine goh trivial ?_
        refine W_cnd ?_ ?_ <;> (try simp only [cnd_r]) <;> intro hlt
        · have hm := leads_more xs i (by omega)
          refine goh hm ?_
          refine W_cond _ (by exact rfl) (by exact trivial) ?_ ?_ <;> intro hl
          · have e : bookB xs = false := bookB_false.2 fun h => by
              have h1 := h.leads
              rw [List.any_eq_false] at h1
              have h2 := h1 (xs.getD i ET.bset.dflt) (by simp [show i < xs.length by omega])
              simp only [Bool.not_eq_true', Bool.not_eq_false] at h2 hl
              rw [hl] at h2
              simp at h2
            refine goh trivial ?_
            exact finh [] e
          · have hl2 : leadsN xs xs.length (xs.getD i ET.bset.dflt) = true := by simpa only [Bool.not_eq_false'] using hl
            refine goh trivial ?_
            refine ⟨xs.length - (i + 1), [some 0], sgSr2 xs (i + 1), by omega, ?_, i + 1, by omega, rfl, fun j hj => ?_, rfl⟩
            · exact leh trivial
            · rcases Nat.lt_succ_iff_lt_or_eq.1 hj with h | rfl
              · exact hbef j h
              · exact hl2
        · have e : bookB xs = true := bookB_true.2 ⟨by omega, hall, by
            rw [List.any_eq_false]
            intro s hs
            obtain ⟨j, hj, rfl⟩ := List.getElem_of_mem hs
            have h1 := hbef j (by omega)
            rw [show xs.getD j ET.bset.dflt = xs[j] by simp [hj]] at h1
            rw [h1]; decide⟩
          refine goh trivial ?_
          exact finh [] e
  · simp [no, ifp] at hp
end Go.Proofs.YtjedcphhajlnoaaGreatDoor
/- Functions: a call done on a book, the reference's. -/
namespace Go.Proofs.YtjedcphhajlnoaaGreatDoor
open Go.RowKit

/-- What a call leaves: the sets, what is answered, and whether they lie in new memory. -/
structure DoR where
  xs : List BSet
  c : Int
  f : Bool
@[go_sem] def doV (p : Prop) (r : DoR) : St := ⟨p, .tup [.agg [.osl .bset (if r.f = true then 1 else 0) 0 r.xs.length], vi r.c], (if r.f = true then [(0, none)] else [(0, some (.arr .bset r.xs))]), (if r.f = true then [.arr .bset r.xs] else [])⟩
noncomputable def newX (xs : List BSet) (s : BSet) : DoR :=
  if nameB s.name = false then ⟨xs, 5, false⟩ else if thereB xs s.name = true then ⟨xs, 2, false⟩ else if xs.length = 6 then ⟨xs, 4, false⟩ else ⟨xs.take (lowN xs s.name) ++ [s] ++ xs.drop (lowN xs s.name), 0, true⟩
@[go_sem] noncomputable def ctNew : Ct := ⟨true, [], fun args os => match args, os with
  | [.agg [.osl .bset 0 0 n], .agg cs], [.arr .bset xs] => (match bsetOf cs with | some s => doV (n = xs.length ∧ xs.length ≤ 100 ∧ s.name.size ≤ 1000) (newX xs s) | none => no)
  | _, _ => no⟩
noncomputable def killX (xs : List BSet) (k : Nat) : DoR :=
  if (xs.any fun s => same s.from_ (xs.getD k ET.bset.dflt).name) = true then ⟨xs, 6, false⟩ else ⟨xs.take k ++ xs.drop (k + 1), 0, true⟩
@[go_sem] noncomputable def ctKill : Ct := ⟨true, [], fun args os => match args, os with
  | [.agg [.osl .bset 0 0 n], .one (.val (.int .i64 k))], [.arr .bset xs] => doV (n = xs.length ∧ xs.length ≤ 100 ∧ 0 ≤ k ∧ k < xs.length) (killX xs k.toNat)
  | _, _ => no⟩
def Eight.put {α : Type} (x : Eight α) (i : Int) (t : α) : Eight α :=
  ⟨if i = 0 then t else x.x0, if i = 1 then t else x.x1, if i = 2 then t else x.x2, if i = 3 then t else x.x3, if i = 4 then t else x.x4, if i = 5 then t else x.x5, if i = 6 then t else x.x6, if i = 7 then t else x.x7⟩
def putX (xs : List BSet) (k : Nat) (i : Int) (t : ByteArray) : DoR :=
  if i < 0 ∨ 8 ≤ i ∨ 24 < t.size then ⟨xs, 5, false⟩ else if ¬ (xs.getD k ET.bset.dflt).kind = 1 then ⟨xs, 3, false⟩ else
    ⟨xs.set k ⟨(xs.getD k ET.bset.dflt).name, (xs.getD k ET.bset.dflt).kind, (xs.getD k ET.bset.dflt).from_, (xs.getD k ET.bset.dflt).blocks.put i t⟩, 0, false⟩
@[go_sem] noncomputable def ctPut : Ct := ⟨true, [], fun args os => match args, os with
  | [.agg [.osl .bset 0 0 n], .one (.val (.int .i64 k)), .agg [.val (.int .i64 kind), .val (.string a), .val (.string b), .val (.int .i64 i), .val (.string t)]], [.arr .bset xs] => doV (n = xs.length ∧ xs.length ≤ 100 ∧ 0 ≤ k ∧ k < xs.length ∧ t.size ≤ 1000) (putX xs k.toNat i t)
  | _, _ => no⟩
noncomputable def backX (xs : List BSet) (k : Nat) (name : ByteArray) : DoR :=
  if thereB xs name = false then ⟨xs, 1, false⟩ else if (xs.getD k ET.bset.dflt).kind = 1 ∧ (xs.getD (lowN xs name) ET.bset.dflt).kind = 2 ∧ (xs.getD (lowN xs name) ET.bset.dflt).from_ = (xs.getD k ET.bset.dflt).name then
    ⟨xs.set k ⟨(xs.getD k ET.bset.dflt).name, (xs.getD k ET.bset.dflt).kind, (xs.getD k ET.bset.dflt).from_, (xs.getD (lowN xs name) ET.bset.dflt).blocks⟩, 0, false⟩ else ⟨xs, 3, false⟩
@[go_sem] noncomputable def ctBack : Ct := ⟨true, [], fun args os => match args, os with
  | [.agg [.osl .bset 0 0 n], .one (.val (.int .i64 k)), .one (.val (.string name))], [.arr .bset xs] => doV (n = xs.length ∧ xs.length ≤ 100 ∧ 0 ≤ k ∧ k < xs.length) (backX xs k.toNat name)
  | _, _ => no⟩
noncomputable def doX (xs : List BSet) (o : BOp) : DoR :=
  if o.kind = 1 then newX xs ⟨o.a, 1, ⟨#[]⟩, Eight.rep ⟨#[]⟩⟩
  else if o.kind < 1 ∨ 6 < o.kind then ⟨xs, 5, false⟩
  else if thereB xs o.a = false then ⟨xs, 1, false⟩
  else if o.kind = 2 then killX xs (lowN xs o.a)
  else if o.kind = 3 then putX xs (lowN xs o.a) o.i o.text
  else if o.kind = 6 then backX xs (lowN xs o.a) o.b
  else if o.kind = 5 then (if ¬ (xs.getD (lowN xs o.a) ET.bset.dflt).kind = 2 then ⟨xs, 3, false⟩ else newX xs ⟨o.b, 1, (xs.getD (lowN xs o.a) ET.bset.dflt).name, (xs.getD (lowN xs o.a) ET.bset.dflt).blocks⟩)
  else (if ¬ (xs.getD (lowN xs o.a) ET.bset.dflt).kind = 1 then ⟨xs, 3, false⟩ else newX xs ⟨o.b, 2, (xs.getD (lowN xs o.a) ET.bset.dflt).name, (xs.getD (lowN xs o.a) ET.bset.dflt).blocks⟩)
@[go_sem] noncomputable def ctDo : Ct := ⟨true, [], fun args os => match args, os with
  | [.agg [.osl .bset 0 0 n], .agg [.val (.int .i64 kind), .val (.string a), .val (.string b), .val (.int .i64 i), .val (.string t)]], [.arr .bset xs] => doV (n = xs.length ∧ xs.length ≤ 100 ∧ a.size ≤ 1000 ∧ b.size ≤ 1000 ∧ t.size ≤ 1000) (doX xs ⟨kind, a, b, i, t⟩)
  | _, _ => no⟩
end Go.Proofs.YtjedcphhajlnoaaGreatDoor
/-
  DERIVED: THE SHELF's CONTRACTS AT THIS DUMP, IN PLAIN WORDS (tools/lay-plain.mjs out of 'YtjedcphhajlnoaaGreatDoorTSh8Q.lean', which tools/lay-shelf.mjs wrote): THE SAME DECLARATIONS UNDER THE SAME NAMES: 'import', 'namespace', 'open', 'def', 'theorem' AND NOTHING ELSE: no command of the shelf's: FOR A HAND-IN. Each laying: the table of numbers ('.._ren') and one theorem, a field a fact of the dump's own or the kernel's comparison; each contract: ONE APPLICATION.
-/
namespace Go.Proofs
open Go.Shelf
def Tryz.lays137_ren : Go.Shelf.Ren := ⟨fun | 137 => 206 | 217 => 256 | 266 => 285 | n => n, fun | 9 => 9 | 5 => 5 | 3 => 3 | n => n, fun | n => n⟩
theorem Tryz.lays137 : Go.Proofs.Lays.n137 Tryz.prog Tryz.lays137_ren := {
  mixed := by kernel_rfl
  f137 := Tryz.func206.trans (congrArg some (by kernel_rfl))
  f217 := Tryz.func256.trans (congrArg some (by kernel_rfl))
  f266 := Tryz.func285.trans (congrArg some (by kernel_rfl))
  t3 := Tryz.underlying3
  a3 := Tryz.isAgg3
  z3 := Tryz.sizeOf3
  v3 := Tryz.zeroValue3
  t5 := Tryz.underlying5
  a5 := Tryz.isAgg5
  z5 := Tryz.sizeOf5
  v5 := Tryz.zeroValue5
  t9 := Tryz.underlying9
  a9 := Tryz.isAgg9
  z9 := Tryz.sizeOf9
  v9 := Tryz.zeroValue9 }
end Go.Proofs
