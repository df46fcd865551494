import Derived.Test.YtjedcphhajlnoaaDoorProg
import Derived.WalkKit
import Derived.Ground.NamesProg
import Derived.Shelf.Small.Strs
import Derived.Test.YtjedcphhajlnoaaDoorM5
import Derived.Test.YtjedcphhajlnoaaDoorM8
set_option linter.unusedSimpArgs false
set_option linter.unusedVariables false
set_option linter.unusedSectionVars false
/- Functions: valid books, the program's. -/
namespace Go.Proofs.YtjedcphhajlnoaaDoor
open Go.RowKit

@[go_sem] def ctLong24 : Ct := ⟨false, [], fun args os => match args, os with
  | [.one (.val (.string t))], [] => is (vb (long24 t))
  | _, _ => no⟩
theorem s_long24_e : EnterOk Tryd.prog 46 := ⟨_, Tryd.func46, rfl, by decide⟩
@[go_sem] def s_long24_lv : List (List Nat) := [[0], [2]]
@[go_sem] noncomputable def s_long24_K : Known := Known.nil
set_option maxHeartbeats 8000000 in
theorem s_long24 : Sound Tryd.prog 46 ctLong24 := by
  have ke := s_long24_K.env []
  have kl : Lives s_long24_lv := trivial
  refine sound_intro (E := ⟨ti, s_long24_K.Γ, []⟩) ke Tryd.func46 Tryd.ntmps46 rfl (rs := [.tmp 2]) rfl ?_
  intro args os hp
  unfold ctLong24 at hp ⊢
  dsimp only at hp ⊢
  split at hp
  · rename_i t
    refine ⟨by simp, fun φ0 w0 => ?_⟩
    refine goh trivial ?_
    refine ⟨by (simp only [go_sem, long24, ↓reduceIte, reduceCtorEq, Nat.reduceAdd, Nat.reduceLT, Nat.reduceLeDiff, Nat.reduceEqDiff]) <;> trivial, [], ?_⟩
    all_goals try simp only [go_sem, long24, inj_r, ↓reduceIte, reduceCtorEq, Nat.reduceAdd, Nat.reduceLT, Nat.reduceLeDiff, Nat.reduceEqDiff, Int.reduceEq]
    all_goals (repeat' refine And.intro ?_ ?_) <;> try exact shut7
  · simp [no, is] at hp
@[go_sem] def ctIndex24 : Ct := ⟨false, [[some .str]], fun args os => match args, os with
  | [.one (.isl .str xs), .one (.fn 46 [])], [] => ifp (xs.length ≤ 4000000) (vi (firstAt long24 xs))
  | _, _ => no⟩
@[go_sem] def sgIndex24 (xs : List ByteArray) (i : Nat) : Sg := ⟨[(8, vi i), (7, vi xs.length), (0, .one (.isl .str xs)), (1, .one (.fn 46 []))], [], []⟩
theorem s_index24_e : EnterOk Tryd.prog 66 := ⟨_, Tryd.func66, rfl, by decide⟩
@[go_sem] def s_index24_lv : List (List Nat) := [[0, 1], [0, 1, 7, 8], [0, 1, 7, 8, 9], [0, 1, 5, 7, 8], [0, 1, 5, 7, 8, 16], [4], [0, 1, 7, 8], [4]]
@[go_sem] noncomputable def s_index24_K : Known := (Known.nil).cons 46 ctLong24 s_long24 s_long24_e
set_option maxHeartbeats 8000000 in
theorem s_index24 : Sound Tryd.prog 66 ctIndex24 := by
  have ke := s_index24_K.env []
  have kl : Lives s_index24_lv := trivial
  refine sound_intro (E := ⟨ti, s_index24_K.Γ, []⟩) ke Tryd.func66 Tryd.ntmps66 rfl (rs := [.tmp 4]) rfl ?_
  intro args os hp
  unfold ctIndex24 at hp ⊢
  dsimp only at hp ⊢
  split at hp
  · rename_i xs
    refine ⟨by simp, fun φ0 w0 => ?_⟩
    have hlen : xs.length ≤ 4000000 := hp
    clear hp
    refine goh trivial ?_
    refine W_le (σ' := sgIndex24 xs 0) [] (by
      simp only [go_sem, inj_r, ↓reduceIte, reduceCtorEq, Nat.reduceAdd, Nat.reduceLT, Nat.reduceLeDiff, Nat.reduceEqDiff, Int.reduceEq]
      all_goals (repeat' refine And.intro ?_ ?_) <;> try exact shut7
      ) ?_
    refine W_loop (fun n σ => ∃ i : Nat, i ≤ xs.length ∧ n = xs.length - i ∧ (∀ j, j < i → long24 (xs.getD j ET.str.dflt) = false) ∧ σ = sgIndex24 xs i) xs.length ⟨0, by omega, by omega, by omega, rfl⟩ ?_
    rintro n σ ⟨i, hi, rfl, hbef, rfl⟩
    unfold sgIndex24
    refine goh trivial ?_
    refine W_cnd ?_ ?_ <;> (try simp only [cnd_r]) <;> intro hlt
    · refine goh trivial ?_
      refine W_cnd ?_ ?_ <;> (try simp only [cnd_r]) <;> intro hl
      · refine goh trivial ?_
        refine ⟨by (simp only [go_sem, ↓reduceIte, reduceCtorEq, Nat.reduceAdd, Nat.reduceLT, Nat.reduceLeDiff, Nat.reduceEqDiff]) <;> trivial, [], ?_⟩
        all_goals try simp only [go_sem, inj_r, ↓reduceIte, reduceCtorEq, Nat.reduceAdd, Nat.reduceLT, Nat.reduceLeDiff, Nat.reduceEqDiff, Int.reduceEq]
        all_goals (repeat' refine And.intro ?_ ?_) <;> try exact shut7
        exact (firstAt_some (by omega) hbef hl).symm
      · refine goh trivial ?_
        refine ⟨xs.length - (i + 1), [], sgIndex24 xs (i + 1), by omega, ?_, i + 1, by omega, rfl, fun j hj => ?_, rfl⟩
        · exact leh trivial
        · rcases Nat.lt_succ_iff_lt_or_eq.1 hj with h | rfl
          · exact hbef j h
          · exact hl
    · refine goh trivial ?_
      refine ⟨by (simp only [go_sem, ↓reduceIte, reduceCtorEq, Nat.reduceAdd, Nat.reduceLT, Nat.reduceLeDiff, Nat.reduceEqDiff]) <;> trivial, [], ?_⟩
      all_goals try simp only [go_sem, inj_r, ↓reduceIte, reduceCtorEq, Nat.reduceAdd, Nat.reduceLT, Nat.reduceLeDiff, Nat.reduceEqDiff, Int.reduceEq]
      all_goals (repeat' refine And.intro ?_ ?_) <;> try exact shut7
      exact (firstAt_none fun j hj => hbef j (by omega)).symm
  · simp [no, ifp] at hp
@[go_sem] def ctHas24 : Ct := ⟨false, [[some .str]], fun args os => match args, os with
  | [.one (.isl .str xs), .one (.fn 46 [])], [] => ifp (xs.length ≤ 4000000) (vb (xs.any long24))
  | _, _ => no⟩
theorem s_has24_e : EnterOk Tryd.prog 45 := ⟨_, Tryd.func45, rfl, by decide⟩
@[go_sem] def s_has24_lv : List (List Nat) := [[0, 1], [4]]
@[go_sem] noncomputable def s_has24_K : Known := (Known.nil).cons 66 ctIndex24 s_index24 s_index24_e
set_option maxHeartbeats 8000000 in
theorem s_has24 : Sound Tryd.prog 45 ctHas24 := by
  have ke := s_has24_K.env []
  have kl : Lives s_has24_lv := trivial
  refine sound_intro (E := ⟨ti, s_has24_K.Γ, []⟩) ke Tryd.func45 Tryd.ntmps45 rfl (rs := [.tmp 4]) rfl ?_
  intro args os hp
  unfold ctHas24 at hp ⊢
  dsimp only at hp ⊢
  split at hp
  · rename_i xs
    refine ⟨by simp, fun φ0 w0 => ?_⟩
    have hlen : xs.length ≤ 4000000 := hp
    clear hp
    refine goh trivial ?_
    refine ⟨by (simp only [go_sem, ↓reduceIte, reduceCtorEq, Nat.reduceAdd, Nat.reduceLT, Nat.reduceLeDiff, Nat.reduceEqDiff]) <;> trivial, [], ?_⟩
    all_goals try simp only [go_sem, inj_r, ↓reduceIte, reduceCtorEq, Nat.reduceAdd, Nat.reduceLT, Nat.reduceLeDiff, Nat.reduceEqDiff, Int.reduceEq]
    all_goals (repeat' refine And.intro ?_ ?_) <;> try exact shut7
    exact firstAt_ge _ _
  · simp [no, ifp] at hp
@[go_sem] noncomputable def ctNamed : Ct := ⟨true, [], fun args os => match args, os with
  | [.agg cs, .one (.ptr 0 0)], [.cells ds] => (match bsetOf cs, bsetOf ds with | some x, some s => is (vb (same x.name s.from_)) | _, _ => no)
  | _, _ => no⟩
theorem s_named_e : EnterOk Tryd.prog 68 := ⟨_, Tryd.func68, rfl, by decide⟩
@[go_sem] def s_named_lv : List (List Nat) := [[1, 2], [3]]
@[go_sem] noncomputable def s_named_K : Known := Known.nil
set_option maxHeartbeats 8000000 in
theorem s_named : Sound Tryd.prog 68 ctNamed := by
  have ke := s_named_K.env []
  have kl : Lives s_named_lv := trivial
  refine sound_intro (E := ⟨ti, s_named_K.Γ, []⟩) ke Tryd.func68 Tryd.ntmps68 rfl (rs := [.tmp 3]) rfl ?_
  intro args os hp
  unfold ctNamed at hp ⊢
  dsimp only at hp ⊢
  split at hp
  · rename_i cs ds
    split at hp
    · rename_i x s hx hs
      obtain rfl := bsetOf_some hx
      obtain rfl := bsetOf_some hs
      clear hx hs hp
      refine ⟨by simp, fun φ0 w0 => ?_⟩
      refine goh trivial ?_
      exact finh [some 0] trivial
    · simp [no] at hp
  · simp [no] at hp
@[go_sem] noncomputable def ctIndexNamed : Ct := ⟨true, [[some .bset]], fun args os => match args, os with
  | [.one (.isl .bset xs), .one (.fn 68 [(0, 0)])], [.cells ds] => (match bsetOf ds with | some s => ifp (xs.length ≤ 4000000) (vi (atB xs s.from_)) | none => no)
  | _, _ => no⟩
@[go_sem] def sgIxN (xs : List BSet) (s : BSet) (i : Nat) : Sg := ⟨[(8, vi i), (7, vi xs.length), (0, .one (.isl .bset xs)), (1, .one (.fn 68 [(0, 0)]))], [some (.cells ((ET.bset.cells s).map .val))], []⟩
theorem s_indexNamed_e : EnterOk Tryd.prog 67 := ⟨_, Tryd.func67, rfl, by decide⟩
@[go_sem] def s_indexNamed_lv : List (List Nat) := [[0, 1], [0, 1, 7, 8], [0, 1, 7, 8, 9], [0, 1, 5, 7, 8], [0, 1, 5, 7, 8, 16], [4], [0, 1, 7, 8], [4]]
@[go_sem] noncomputable def s_indexNamed_K : Known := (Known.nil).cons 68 ctNamed s_named s_named_e
set_option maxHeartbeats 8000000 in
theorem s_indexNamed : Sound Tryd.prog 67 ctIndexNamed := by
  have ke := s_indexNamed_K.env []
  have kl : Lives s_indexNamed_lv := trivial
  refine sound_intro (E := ⟨ti, s_indexNamed_K.Γ, []⟩) ke Tryd.func67 Tryd.ntmps67 rfl (rs := [.tmp 4]) rfl ?_
  intro args os hp
  unfold ctIndexNamed at hp ⊢
  dsimp only at hp ⊢
  split at hp
  · rename_i xs ds
    split at hp
    · rename_i s hs
      obtain rfl := bsetOf_some hs
      have hlen : xs.length ≤ 4000000 := hp
      clear hs
      refine ⟨by simp, fun φ0 w0 => ?_⟩
      refine goh trivial ?_
      refine W_le (σ' := sgIxN xs s 0) [some 0] (by
        simp only [go_sem, inj_r, ↓reduceIte, reduceCtorEq, Nat.reduceAdd, Nat.reduceLT, Nat.reduceLeDiff, Nat.reduceEqDiff, Int.reduceEq]
        all_goals (repeat' refine And.intro ?_ ?_) <;> try exact shut7
        ) ?_
      refine W_loop (fun n σ => ∃ i : Nat, i ≤ xs.length ∧ n = xs.length - i ∧ (∀ j, j < i → same (xs.getD j ET.bset.dflt).name s.from_ = false) ∧ σ = sgIxN xs s i) xs.length ⟨0, by omega, by omega, by omega, rfl⟩ ?_
      rintro n σ ⟨i, hi, rfl, hbef, rfl⟩
      unfold sgIxN
      refine goh trivial ?_
      refine W_cnd ?_ ?_ <;> (try simp only [cnd_r]) <;> intro hlt
      · refine goh trivial ?_
        refine W_cond _ (by exact rfl) (by exact trivial) ?_ ?_ <;> intro hl
        · have e : atB xs s.from_ = i := firstAt_some (by omega) hbef hl
          refine goh trivial ?_
          exact finh [some 0] e
        · refine goh trivial ?_
          refine ⟨xs.length - (i + 1), [some 0], sgIxN xs s (i + 1), by omega, ?_, i + 1, by omega, rfl, fun j hj => ?_, rfl⟩
          · exact leh trivial
          · rcases Nat.lt_succ_iff_lt_or_eq.1 hj with h | rfl
            · first | exact hbef j h | exact same_false.1 (hbef j h)
            · first | exact hl | exact same_false.1 hl
      · have e : atB xs s.from_ = -1 := firstAt_none fun j hj => hbef j (by omega)
        refine goh trivial ?_
        exact finh [some 0] e
    · simp [no] at hp
  · simp [no] at hp
@[go_sem] noncomputable def ctLeads : Ct := ⟨false, [[some .bset], []], fun args os => match args, os with
  | [.agg [.isl .bset xs], .agg cs], [] => (match bsetOf cs with | some s => ifp (xs.length ≤ 4000000) (vb (leadsN xs xs.length s)) | none => no)
  | _, _ => no⟩
@[go_sem] def sgLeads (xs : List BSet) (s : BSet) (i : Nat) : Sg := ⟨[(2, .one (.ptr 0 0)), (3, .one (.ptr 1 0)), (8, vi xs.length), (9, vi i)], [some (.cells [.isl .bset xs]), some (.cells ((ET.bset.cells s).map .val))], []⟩
theorem atB_lt (xs : List BSet) (name : ByteArray) : atB xs name < xs.length := by
  unfold atB firstAt
  split
  · rename_i i h
    rw [List.findIdx?_eq_some_iff_getElem] at h
    obtain ⟨hi, -⟩ := h
    omega
  · omega
theorem s_leads_e : EnterOk Tryd.prog 49 := ⟨_, Tryd.func49, rfl, by decide⟩
@[go_sem] def s_leads_lv : List (List Nat) := [[2, 3], [2, 3, 8, 9], [2, 3, 8, 9, 10], [2, 3, 8, 9, 13], [4], [2, 3, 5, 8, 9], [2, 3, 5, 8, 9, 33], [4], [2, 3, 8, 9], [2, 3, 8, 9], [4]]
@[go_sem] noncomputable def s_leads_K : Known := ((Known.nil).cons 67 ctIndexNamed s_indexNamed s_indexNamed_e).cons 68 ctNamed s_named s_named_e
set_option maxHeartbeats 8000000 in
theorem s_leads : Sound Tryd.prog 49 ctLeads := by
  have ke := s_leads_K.env []
  have kl : Lives s_leads_lv := trivial
  refine sound_intro (E := ⟨ti, s_leads_K.Γ, []⟩) ke Tryd.func49 Tryd.ntmps49 rfl (rs := [.tmp 4]) rfl ?_
  intro args os hp
  unfold ctLeads at hp ⊢
  dsimp only at hp ⊢
  split at hp
  · rename_i xs cs
    split at hp
    · rename_i s0 hs0
      obtain rfl := bsetOf_some hs0
      have hlen : xs.length ≤ 4000000 := hp
      clear hs0
      refine ⟨by simp, fun φ0 w0 => ?_⟩
      obtain ⟨R, hR⟩ : ∃ R, leadsN xs xs.length s0 = R := ⟨_, rfl⟩
      refine goh trivial ?_
      refine W_le (σ' := sgLeads xs s0 0) [some 0, some 1] (by
        simp only [go_sem, inj_r, ↓reduceIte, reduceCtorEq, Nat.reduceAdd, Nat.reduceLT, Nat.reduceLeDiff, Nat.reduceEqDiff, Int.reduceEq]
        all_goals (repeat' refine And.intro ?_ ?_) <;> try exact shut7
        ) ?_
      refine W_loop (fun q σ => ∃ (i : Nat) (s : BSet), i ≤ xs.length ∧ q = xs.length - i ∧ leadsN xs (xs.length - i) s = R ∧ σ = sgLeads xs s i) xs.length ⟨0, s0, by omega, by omega, hR, rfl⟩ ?_
      rintro q σ ⟨i, s, hi, rfl, hs, rfl⟩
      unfold sgLeads
      refine goh trivial ?_
      refine W_cnd ?_ ?_ <;> (try simp only [cnd_r]) <;> intro hlt
      · obtain ⟨m, hm⟩ : ∃ m, xs.length - i = m + 1 := ⟨xs.length - i - 1, by omega⟩
        rw [hm] at hs
        unfold leadsN at hs
        refine goh trivial ?_
        refine W_cond _ (by exact rfl) (by exact trivial) ?_ ?_ <;> intro hf
        · rw [if_pos hf] at hs
          have e : leadsN xs xs.length s0 = (s.kind == 1) := by rw [hR, ← hs]
          refine goh trivial ?_
          exact finh [] e
        · rw [if_neg (by rw [hf]; decide)] at hs
          have hl := atB_lt xs s.from_
          repeat' first
            | with_reducible refine red ?_
            | refine W_seq ?_
            | (refine W_reg (s_leads_K.env []) s_leads_lv fun K' hK' => ?_
               simp only [go_sem, ↓reduceIte, ↓reduceDIte, reduceCtorEq, Nat.reduceAdd, Nat.reduceMul, Nat.reduceSub, Nat.reduceDiv, Nat.reduceMod, Nat.reduceLT, Nat.reduceLeDiff, Nat.reduceEqDiff, Nat.reduceBEq, Int.reduceToNat, Int.reduceLE, Int.reduceLT, Int.reduceEq, Int.reduceNe, Int.reduceNeg]
               (repeat' refine And.intro ?_ ?_) <;> try first | with_reducible refine hK' ?_ | exact shut6)
            | with_reducible refine blockG_o (by decide) ?_
          · intro hgd
            have hgd2 : ¬ atB xs s.from_ < 0 := by simpa using hgd
            omega
          refine W_cnd ?_ ?_ <;> (try simp only [cnd_r]) <;> intro hc
          · have e : leadsN xs xs.length s0 = false := by
              rw [hR, ← hs, if_pos]
              rcases hc with h | h
              · exact .inl h
              · exact .inr h
            refine goh trivial ?_
            exact finh [] e
          · obtain ⟨c1, c2⟩ := hc
            have c3 : ¬ (setOf xs s.from_).kind = s.kind := by
              intro h
              rw [beq_eq_false_iff_ne] at c2
              exact c2 h
            rw [if_neg (fun h => h.elim c1 c3)] at hs
            refine goh trivial ?_
            refine ⟨xs.length - (i + 1), [some 0, some 1], sgLeads xs (setOf xs s.from_) (i + 1), by omega, ?_, i + 1, setOf xs s.from_, by omega, rfl, ?_, rfl⟩
            · simp only [go_sem, setOf, inj_r, ↓reduceIte, reduceCtorEq, Nat.reduceAdd, Nat.reduceLT, Nat.reduceLeDiff, Nat.reduceEqDiff, Int.reduceEq]
              all_goals (repeat' refine And.intro ?_ ?_) <;> try exact shut7
            · rw [show xs.length - (i + 1) = m by omega]; exact hs
      · have h0 : xs.length - i = 0 := by omega
        rw [h0] at hs
        have e : leadsN xs xs.length s0 = false := by rw [hR, ← hs]; rfl
        refine goh trivial ?_
        exact finh [] e
    · simp [no] at hp
  · simp [no] at hp
@[go_sem] noncomputable def ctBadSet : Ct := ⟨true, [], fun args os => match args, os with
  | [.agg cs, .one (.ptr 0 0)], [.cells [.isl .bset xs]] => (match bsetOf cs with | some s => ifp (xs.length ≤ 4000000) (vb (!leadsN xs xs.length s)) | none => no)
  | _, _ => no⟩
theorem s_badSet_e : EnterOk Tryd.prog 48 := ⟨_, Tryd.func48, rfl, by decide⟩
@[go_sem] def s_badSet_lv : List (List Nat) := [[1, 2], [3]]
@[go_sem] noncomputable def s_badSet_K : Known := (Known.nil).cons 49 ctLeads s_leads s_leads_e
set_option maxHeartbeats 8000000 in
theorem s_badSet : Sound Tryd.prog 48 ctBadSet := by
  have ke := s_badSet_K.env []
  have kl : Lives s_badSet_lv := trivial
  refine sound_intro (E := ⟨ti, s_badSet_K.Γ, []⟩) ke Tryd.func48 Tryd.ntmps48 rfl (rs := [.tmp 3]) rfl ?_
  intro args os hp
  unfold ctBadSet at hp ⊢
  dsimp only at hp ⊢
  split at hp
  · rename_i cs xs
    split at hp
    · rename_i s hs
      obtain rfl := bsetOf_some hs
      have hlen : xs.length ≤ 4000000 := hp
      clear hs
      refine ⟨by simp, fun φ0 w0 => ?_⟩
      refine goh trivial ?_
      exact finh [some 0] trivial
    · simp [no] at hp
  · simp [no] at hp
@[go_sem] noncomputable def ctIndexBad : Ct := ⟨true, [[some .bset]], fun args os => match args, os with
  | [.one (.isl .bset ys), .one (.fn 48 [(0, 0)])], [.cells [.isl .bset xs]] => ifp (xs.length ≤ 4000000 ∧ ys.length ≤ 4000000) (vi (firstAt (fun s => !leadsN xs xs.length s) ys))
  | _, _ => no⟩
@[go_sem] def sgIxB (xs ys : List BSet) (i : Nat) : Sg := ⟨[(8, vi i), (7, vi ys.length), (0, .one (.isl .bset ys)), (1, .one (.fn 48 [(0, 0)]))], [some (.cells [.isl .bset xs])], []⟩
theorem s_indexBad_e : EnterOk Tryd.prog 67 := ⟨_, Tryd.func67, rfl, by decide⟩
@[go_sem] def s_indexBad_lv : List (List Nat) := [[0, 1], [0, 1, 7, 8], [0, 1, 7, 8, 9], [0, 1, 5, 7, 8], [0, 1, 5, 7, 8, 16], [4], [0, 1, 7, 8], [4]]
@[go_sem] noncomputable def s_indexBad_K : Known := (Known.nil).cons 48 ctBadSet s_badSet s_badSet_e
set_option maxHeartbeats 8000000 in
theorem s_indexBad : Sound Tryd.prog 67 ctIndexBad := by
  have ke := s_indexBad_K.env []
  have kl : Lives s_indexBad_lv := trivial
  refine sound_intro (E := ⟨ti, s_indexBad_K.Γ, []⟩) ke Tryd.func67 Tryd.ntmps67 rfl (rs := [.tmp 4]) rfl ?_
  intro args os hp
  unfold ctIndexBad at hp ⊢
  dsimp only at hp ⊢
  split at hp
  · rename_i ys xs
    refine ⟨by simp, fun φ0 w0 => ?_⟩
    obtain ⟨hx, hlen⟩ : xs.length ≤ 4000000 ∧ ys.length ≤ 4000000 := hp
    refine goh trivial ?_
    refine W_le (σ' := sgIxB xs ys 0) [some 0] (by
      simp only [go_sem, inj_r, ↓reduceIte, reduceCtorEq, Nat.reduceAdd, Nat.reduceLT, Nat.reduceLeDiff, Nat.reduceEqDiff, Int.reduceEq]
      all_goals (repeat' refine And.intro ?_ ?_) <;> try exact shut7
      ) ?_
    refine W_loop (fun n σ => ∃ i : Nat, i ≤ ys.length ∧ n = ys.length - i ∧ (∀ j, j < i → leadsN xs xs.length (ys.getD j ET.bset.dflt) = true) ∧ σ = sgIxB xs ys i) ys.length ⟨0, by omega, by omega, by omega, rfl⟩ ?_
    rintro n σ ⟨i, hi, rfl, hbef, rfl⟩
    unfold sgIxB
    refine goh trivial ?_
    refine W_cnd ?_ ?_ <;> (try simp only [cnd_r]) <;> intro hlt
    · refine goh trivial ?_
      refine W_cond _ (by exact rfl) (by exact trivial) ?_ ?_ <;> intro hl
      · have e : firstAt (fun s => !leadsN xs xs.length s) ys = i := firstAt_some (d := ET.bset.dflt) (by omega) (fun j hj => by show (!leadsN xs xs.length (ys.getD j ET.bset.dflt)) = false; rw [hbef j hj]; rfl) hl
        refine goh trivial ?_
        exact finh [some 0] e
      · have hl2 : leadsN xs xs.length (ys.getD i ET.bset.dflt) = true := by simpa using hl
        refine goh trivial ?_
        refine ⟨ys.length - (i + 1), [some 0], sgIxB xs ys (i + 1), by omega, ?_, i + 1, by omega, rfl, fun j hj => ?_, rfl⟩
        · exact leh trivial
        · rcases Nat.lt_succ_iff_lt_or_eq.1 hj with h | rfl
          · exact hbef j h
          · exact hl2
    · have e : firstAt (fun s => !leadsN xs xs.length s) ys = -1 := firstAt_none (d := ET.bset.dflt) fun j hj => by show (!leadsN xs xs.length (ys.getD j ET.bset.dflt)) = false; rw [hbef j (by omega)]; rfl
      refine goh trivial ?_
      exact finh [some 0] e
  · simp [no, ifp] at hp
@[go_sem] noncomputable def ctHasBad : Ct := ⟨true, [[some .bset]], fun args os => match args, os with
  | [.one (.isl .bset ys), .one (.fn 48 [(0, 0)])], [.cells [.isl .bset xs]] => ifp (xs.length ≤ 4000000 ∧ ys.length ≤ 4000000) (vb (ys.any (fun s => !leadsN xs xs.length s)))
  | _, _ => no⟩
theorem s_hasBad_e : EnterOk Tryd.prog 47 := ⟨_, Tryd.func47, rfl, by decide⟩
@[go_sem] def s_hasBad_lv : List (List Nat) := [[0, 1], [4]]
@[go_sem] noncomputable def s_hasBad_K : Known := (Known.nil).cons 67 ctIndexBad s_indexBad s_indexBad_e
set_option maxHeartbeats 8000000 in
theorem s_hasBad : Sound Tryd.prog 47 ctHasBad := by
  have ke := s_hasBad_K.env []
  have kl : Lives s_hasBad_lv := trivial
  refine sound_intro (E := ⟨ti, s_hasBad_K.Γ, []⟩) ke Tryd.func47 Tryd.ntmps47 rfl (rs := [.tmp 4]) rfl ?_
  intro args os hp
  unfold ctHasBad at hp ⊢
  dsimp only at hp ⊢
  split at hp
  · rename_i ys xs
    refine ⟨by simp, fun φ0 w0 => ?_⟩
    obtain ⟨hx, hlen⟩ : xs.length ≤ 4000000 ∧ ys.length ≤ 4000000 := hp
    refine goh trivial ?_
    refine ⟨by (simp only [go_sem, ↓reduceIte, reduceCtorEq, Nat.reduceAdd, Nat.reduceLT, Nat.reduceLeDiff, Nat.reduceEqDiff]) <;> trivial, [some 0], ?_⟩
    all_goals try simp only [go_sem, inj_r, ↓reduceIte, reduceCtorEq, Nat.reduceAdd, Nat.reduceLT, Nat.reduceLeDiff, Nat.reduceEqDiff, Int.reduceEq]
    all_goals (repeat' refine And.intro ?_ ?_) <;> try exact shut7
    exact firstAt_ge _ _
  · simp [no, ifp] at hp
@[go_sem] noncomputable def ctBookOk : Ct := ⟨false, [[some .bset]], fun args os => match args, os with
  | [.agg [.isl .bset xs]], [] => ifp (xs.length ≤ 4000000 ∧ ∀ i : Nat, (xs.getD i ET.bset.dflt).name.size ≤ 9223372036854775807) (vb (bookB xs))
  | _, _ => no⟩
@[go_sem] def sgBookOk (xs : List BSet) (i : Nat) : Sg := ⟨[(1, .one (.ptr 0 0)), (10, .one (.isl .bset xs)), (11, vi xs.length), (12, vi i)], [some (.cells [.isl .bset xs])], []⟩
theorem s_bookOk_e : EnterOk Tryd.prog 19 := ⟨_, Tryd.func19, rfl, by decide⟩
@[go_sem] def s_bookOk_lv : List (List Nat) := [[1], [1, 8], [2], [1, 10, 11, 12], [1, 10, 11, 12, 13], [1, 3, 4, 10, 11, 12], [1, 10, 11, 12, 51], [2], [1, 10, 11, 12], [2]]
@[go_sem] noncomputable def s_bookOk_K : Known := (((((Known.nil).cons 44 ctName s_bookName s_bookName_e).cons 45 ctHas24 s_has24 s_has24_e).cons 46 ctLong24 s_long24 s_long24_e).cons 47 ctHasBad s_hasBad s_hasBad_e).cons 48 ctBadSet s_badSet s_badSet_e
set_option maxHeartbeats 8000000 in
theorem s_bookOk : Sound Tryd.prog 19 ctBookOk := by
  have ke := s_bookOk_K.env []
  have kl : Lives s_bookOk_lv := trivial
  refine sound_intro (E := ⟨ti, s_bookOk_K.Γ, []⟩) ke Tryd.func19 Tryd.ntmps19 rfl (rs := [.tmp 2]) rfl ?_
  intro args os hp
  unfold ctBookOk at hp ⊢
  dsimp only at hp ⊢
  split at hp
  · rename_i xs
    refine ⟨by simp, fun φ0 w0 => ?_⟩
    obtain ⟨hlen, hsz⟩ : xs.length ≤ 4000000 ∧ ∀ i : Nat, (xs.getD i ET.bset.dflt).name.size ≤ 9223372036854775807 := hp
    refine goh trivial ?_
    refine W_cnd ?_ ?_ <;> (try simp only [cnd_r]) <;> intro hc
    · have e : bookB xs = false := bookB_false.2 fun h => by have := h.few; omega
      refine goh trivial ?_
      exact finh [] e
    · refine goh trivial ?_
      refine W_le (σ' := sgBookOk xs 0) [some 0] (by
        simp only [go_sem, inj_r, ↓reduceIte, reduceCtorEq, Nat.reduceAdd, Nat.reduceLT, Nat.reduceLeDiff, Nat.reduceEqDiff, Int.reduceEq]
        all_goals (repeat' refine And.intro ?_ ?_) <;> try exact shut7
        ) ?_
      refine W_loop (fun q σ => ∃ i : Nat, i ≤ xs.length ∧ q = xs.length - i ∧ (∀ j, j < i → SetOk xs j) ∧ σ = sgBookOk xs i) xs.length ⟨0, by omega, by omega, by omega, rfl⟩ ?_
      rintro q σ ⟨i, hi, rfl, hbef, rfl⟩
      unfold sgBookOk
      refine goh trivial ?_
      refine W_cnd ?_ ?_ <;> (try simp only [cnd_r]) <;> intro hlt
      · have hsz1 := hsz i
        have w1 : IntKind.i64.wrap ((i : Int) - 1) = (i : Int) - 1 := wrap_id _ (by omega) (by omega)
        have ht : ((i : Int) - 1).toNat = i - 1 := by omega
        refine goh (And.intro w1 ht) ?_
        refine W_cond _ (by exact rfl) (by exact trivial) ?_ ?_ <;> intro hb
        · have e : bookB xs = false := bookB_false.2 fun h => by
            obtain ⟨h1, h2, h3, h4⟩ := h.each i (by omega)
            unfold lessB at h2
            unfold big8 at h4
            simp only [List.any_cons, List.any_nil, Bool.or_false] at h4
            have hx := (bad_expr _ _ _ _ _ _).2 ⟨h1, fun hp : (i : Int) > 0 => h2 (by omega), (show ((xs.getD i ET.bset.dflt).kind != 1) = false ∨ ((xs.getD i ET.bset.dflt).kind != 2) = false from h3.elim (fun h => .inl (by rw [h]; rfl)) (fun h => .inr (by rw [h]; rfl))), h4⟩
            rw [hx] at hb
            cases hb
          refine goh trivial ?_
          exact finh [] e
        · obtain ⟨h1, h2, h3, h4⟩ := (bad_expr _ _ _ _ _ _).1 hb
          have h3' : (xs.getD i ET.bset.dflt).kind = 1 ∨ (xs.getD i ET.bset.dflt).kind = 2 := by
            rcases h3 with h | h
            · exact .inl (by simpa only [bne_eq_false_iff_eq] using h)
            · exact .inr (by simpa only [bne_eq_false_iff_eq] using h)
          have h4' : big8 (xs.getD i ET.bset.dflt) = false := by
            unfold big8
            simp only [List.any_cons, List.any_nil, Bool.or_false]
            exact h4
          have hs : SetOk xs i := ⟨h1, fun hp => h2 (by omega), h3', h4'⟩
          refine goh trivial ?_
          refine ⟨xs.length - (i + 1), [some 0], sgBookOk xs (i + 1), by omega, ?_, i + 1, by omega, rfl, fun j hj => ?_, rfl⟩
          · exact leh trivial
          · rcases Nat.lt_succ_iff_lt_or_eq.1 hj with h | rfl
            · exact hbef j h
            · exact hs
      · have e : bookB xs = !xs.any (fun s => !leadsN xs xs.length s) := by
          cases ha : xs.any (fun s => !leadsN xs xs.length s) with
          | false => exact bookB_true.2 ⟨by omega, fun i hi => hbef i (by omega), ha⟩
          | true => exact bookB_false.2 fun h => by rw [h.leads] at ha; cases ha
        refine goh trivial ?_
        exact finh [] e
  · simp [no, ifp] at hp
end Go.Proofs.YtjedcphhajlnoaaDoor
/- Functions: valid books, the reference's. -/
namespace Go.Proofs.YtjedcphhajlnoaaDoor
open Go.RowKit

@[go_sem] noncomputable def ctAt : Ct := ⟨false, [[some .bset]], fun args os => match args, os with
  | [.agg [.isl .bset xs], .one (.val (.string name))], [] => ifp (xs.length ≤ 4000000) (.tup [vi (lowN xs name), vb (thereB xs name)])
  | _, _ => no⟩
@[go_sem] def sgAt (xs : List BSet) (name : ByteArray) (k : Nat) : Sg := ⟨[(1, vs name), (2, .one (.ptr 0 0)), (6, vi k)], [some (.cells [.isl .bset xs])], []⟩
theorem s_l4At_e : EnterOk Tryd.prog 22 := ⟨_, Tryd.func22, rfl, by decide⟩
@[go_sem] def s_l4At_lv : List (List Nat) := [[1, 2], [1, 2, 6], [1, 2, 6, 21], [1, 2, 6], [4, 5]]
@[go_sem] noncomputable def s_l4At_K : Known := Known.nil
set_option maxHeartbeats 8000000 in
theorem s_l4At : Sound Tryd.prog 22 ctAt := by
  have ke := s_l4At_K.env []
  have kl : Lives s_l4At_lv := trivial
  refine sound_intro (E := ⟨ti, s_l4At_K.Γ, []⟩) ke Tryd.func22 Tryd.ntmps22 rfl (rs := [.tmp 4, .tmp 5]) rfl ?_
  intro args os hp
  unfold ctAt at hp ⊢
  dsimp only at hp ⊢
  split at hp
  · rename_i xs name
    refine ⟨by simp, fun φ0 w0 => ?_⟩
    have hlen : xs.length ≤ 4000000 := hp
    refine goh trivial ?_
    refine W_le (σ' := sgAt xs name 0) [some 0] (by
      simp only [go_sem, inj_r, ↓reduceIte, reduceCtorEq, Nat.reduceAdd, Nat.reduceLT, Nat.reduceLeDiff, Nat.reduceEqDiff, Int.reduceEq]
      all_goals (repeat' refine And.intro ?_ ?_) <;> try exact shut7
      ) ?_
    refine W_loop (fun q σ => ∃ k : Nat, k ≤ xs.length ∧ q = xs.length - k ∧ (∀ j, j < k → lessB (xs.getD j ET.bset.dflt).name name = true) ∧ σ = sgAt xs name k) xs.length ⟨0, by omega, by omega, by omega, rfl⟩ ?_
    rintro q σ ⟨k, hk, rfl, hbef, rfl⟩
    unfold sgAt
    refine goh trivial ?_
    refine W_cond _ (by exact rfl) (by exact trivial) ?_ ?_ <;> intro hc
    · have hc2 : k < xs.length ∧ lessB (xs.getD k ET.bset.dflt).name name = true := by
        unfold lessB
        simpa using hc
      refine goh trivial ?_
      refine ⟨xs.length - (k + 1), [some 0], sgAt xs name (k + 1), by omega, ?_, k + 1, by omega, rfl, fun j hj => ?_, rfl⟩
      · exact leh trivial
      · rcases Nat.lt_succ_iff_lt_or_eq.1 hj with h | rfl
        · exact hbef j h
        · exact hc2.2
    · have hs : k = xs.length ∨ lessB (xs.getD k ET.bset.dflt).name name = false := by
        by_cases h : k < xs.length
        · right
          unfold lessB
          have h2 : (k : Int) < xs.length := by omega
          simpa [h2] using hc
        · left; omega
      have e := lowN_eq hk hbef hs
      refine goh trivial ?_
      refine ⟨by (simp only [go_sem, e, ↓reduceIte, reduceCtorEq, Nat.reduceAdd, Nat.reduceLT, Nat.reduceLeDiff, Nat.reduceEqDiff]) <;> trivial, [], ?_⟩
      all_goals try simp only [go_sem, e, inj_r, ↓reduceIte, reduceCtorEq, Nat.reduceAdd, Nat.reduceLT, Nat.reduceLeDiff, Nat.reduceEqDiff, Int.reduceEq]
      all_goals (repeat' refine And.intro ?_ ?_) <;> try exact shut7
      unfold thereB
      rw [e]
      by_cases h : (k : Int) < xs.length
      · rw [if_pos h, decide_eq_true (show k < xs.length by omega), Bool.true_and]
      · rw [if_neg h, decide_eq_false (show ¬ k < xs.length by omega), Bool.false_and]
  · simp [no, ifp] at hp
@[go_sem] noncomputable def ctRoots : Ct := ⟨false, [[some .bset], []], fun args os => match args, os with
  | [.agg [.isl .bset xs], .agg cs], [] => (match bsetOf cs with | some s => ifp (xs.length ≤ 4000000 ∧ Sorted xs) (vb (leadsN xs (xs.length + 1) s)) | none => no)
  | _, _ => no⟩
@[go_sem] def sgRoots (xs : List BSet) (s : BSet) (i : Nat) : Sg := ⟨[(2, .one (.ptr 0 0)), (3, .one (.ptr 1 0)), (5, vi i)], [some (.cells [.isl .bset xs]), some (.cells ((ET.bset.cells s).map .val))], []⟩
theorem s_roots_e : EnterOk Tryd.prog 26 := ⟨_, Tryd.func26, rfl, by decide⟩
@[go_sem] def s_roots_lv : List (List Nat) := [[2, 3], [2, 3, 5], [2, 3, 5, 12], [2, 3, 5], [2, 3, 5, 17], [4], [2, 3, 5, 6, 7], [2, 3, 5, 6, 40], [4], [2, 3, 5], [4]]
@[go_sem] noncomputable def s_roots_K : Known := (Known.nil).cons 22 ctAt s_l4At s_l4At_e
set_option maxHeartbeats 8000000 in
theorem s_roots : Sound Tryd.prog 26 ctRoots := by
  have ke := s_roots_K.env []
  have kl : Lives s_roots_lv := trivial
  refine sound_intro (E := ⟨ti, s_roots_K.Γ, []⟩) ke Tryd.func26 Tryd.ntmps26 rfl (rs := [.tmp 4]) rfl ?_
  intro args os hp
  unfold ctRoots at hp ⊢
  dsimp only at hp ⊢
  split at hp
  · rename_i xs cs
    split at hp
    · rename_i s0 hs0
      obtain rfl := bsetOf_some hs0
      obtain ⟨hlen, hso⟩ : xs.length ≤ 4000000 ∧ Sorted xs := hp
      clear hs0
      refine ⟨by simp, fun φ0 w0 => ?_⟩
      obtain ⟨R, hR⟩ : ∃ R, leadsN xs (xs.length + 1) s0 = R := ⟨_, rfl⟩
      refine goh trivial ?_
      refine W_le (σ' := sgRoots xs s0 0) [some 0, some 1] (by
        simp only [go_sem, inj_r, ↓reduceIte, reduceCtorEq, Nat.reduceAdd, Nat.reduceLT, Nat.reduceLeDiff, Nat.reduceEqDiff, Int.reduceEq]
        all_goals (repeat' refine And.intro ?_ ?_) <;> try exact shut7
        ) ?_
      refine W_loop (fun q σ => ∃ (i : Nat) (s : BSet), i ≤ xs.length + 1 ∧ q = xs.length + 1 - i ∧ leadsN xs (xs.length + 1 - i) s = R ∧ σ = sgRoots xs s i) (xs.length + 1) ⟨0, s0, by omega, by omega, hR, rfl⟩ ?_
      rintro q σ ⟨i, s, hi, rfl, hs, rfl⟩
      unfold sgRoots
      refine goh trivial ?_
      refine W_cnd ?_ ?_ <;> (try simp only [cnd_r]) <;> intro hlt
      · obtain ⟨m, hm⟩ : ∃ m, xs.length + 1 - i = m + 1 := ⟨xs.length - i, by omega⟩
        rw [hm] at hs
        unfold leadsN at hs
        refine goh trivial ?_
        refine W_cond _ (by exact rfl) (by exact trivial) ?_ ?_ <;> intro hf
        · rw [if_pos hf] at hs
          have e : leadsN xs (xs.length + 1) s0 = (s.kind == 1) := by rw [hR, ← hs]
          refine goh trivial ?_
          exact finh [] e
        · rw [if_neg (by rw [hf]; decide)] at hs
          obtain ⟨a1, a2⟩ := at_low hso s.from_
          cases ht : thereB xs s.from_ with
          | false =>
            have e : leadsN xs (xs.length + 1) s0 = false := by rw [hR, ← hs, if_pos (.inl (a2 ht))]
            repeat' first
              | with_reducible refine red ?_
              | refine W_seq ?_
              | (refine W_reg (s_roots_K.env []) s_roots_lv fun K' hK' => ?_
                 simp only [go_sem, ht, Bool.not_false, Bool.not_true, Bool.false_eq_true, ↓reduceIte, ↓reduceDIte, reduceCtorEq, Nat.reduceAdd, Nat.reduceMul, Nat.reduceSub, Nat.reduceDiv, Nat.reduceMod, Nat.reduceLT, Nat.reduceLeDiff, Nat.reduceEqDiff, Nat.reduceBEq, Int.reduceToNat, Int.reduceLE, Int.reduceLT, Int.reduceEq, Int.reduceNe, Int.reduceNeg]
                 (repeat' refine And.intro ?_ ?_) <;> try first | with_reducible refine hK' ?_ | exact shut6)
              | with_reducible refine blockG_o (by decide) ?_
            all_goals try (intro hgd; cases hgd; done)
            refine W_cnd ?_ ?_ <;> intro hlit <;> try (cases hlit; done)
            refine goh trivial ?_
            exact finh [] e
          | true =>
            have hat := a1 ht
            have hlow : lowN xs s.from_ < xs.length := by
              unfold thereB at ht
              rw [Bool.and_eq_true, decide_eq_true_eq] at ht
              exact ht.1
            have hset : setOf xs s.from_ = xs.getD (lowN xs s.from_) ET.bset.dflt := by unfold setOf; rw [hat]; rfl
            rw [hat, hset] at hs
            refine goh ht ?_
            refine W_cnd ?_ ?_ <;> (try simp only [cnd_r]) <;> intro hc
            · have e : leadsN xs (xs.length + 1) s0 = false := by rw [hR, ← hs, if_pos (.inr hc)]
              refine goh trivial ?_
              exact finh [] e
            · have hc2 : ¬ (xs.getD (lowN xs s.from_) ET.bset.dflt).kind = s.kind := by
                first | exact hc | (rw [beq_eq_false_iff_ne] at hc; exact hc)
              rw [if_neg (fun h => h.elim (by omega) hc2)] at hs
              refine goh trivial ?_
              refine ⟨xs.length + 1 - (i + 1), [some 0, some 1], sgRoots xs (xs.getD (lowN xs s.from_) ET.bset.dflt) (i + 1), by omega, ?_, i + 1, _, by omega, rfl, ?_, rfl⟩
              · exact leh trivial
              · rw [show xs.length + 1 - (i + 1) = m by omega]; exact hs
      · have h0 : xs.length + 1 - i = 0 := by omega
        rw [h0] at hs
        have e : leadsN xs (xs.length + 1) s0 = false := by rw [hR, ← hs]; rfl
        refine goh trivial ?_
        exact finh [] e
    · simp [no] at hp
  · simp [no] at hp
end Go.Proofs.YtjedcphhajlnoaaDoor
/- Functions: valid books, the reference's, on. -/
namespace Go.Proofs.YtjedcphhajlnoaaDoor
open Go.RowKit

def blk8 (x : BSet) : List ByteArray := [x.blocks.x0, x.blocks.x1, x.blocks.x2, x.blocks.x3, x.blocks.x4, x.blocks.x5, x.blocks.x6, x.blocks.x7]
@[go_sem] def sgSb (xs : List BSet) (i : Nat) : Sg := ⟨[(1, .one (.ptr 0 0)), (3, vi i)], [some (.cells [.isl .bset xs])], []⟩
@[go_sem] def sgSj (xs : List BSet) (s : BSet) (i j : Nat) : Sg := ⟨[(1, .one (.ptr 0 0)), (3, vi i), (4, .one (.ptr 1 0)), (5, vi j)], [some (.cells [.isl .bset xs]), some (.cells ((ET.bset.cells s).map .val))], []⟩
@[go_sem] def sgSr2 (xs : List BSet) (i : Nat) : Sg := ⟨[(1, .one (.ptr 0 0)), (6, vi i)], [some (.cells [.isl .bset xs])], []⟩
theorem bad2 (A B G1 G2 : Bool) (P : Prop) [Decidable P] : (if (if (if (!A) = true then true else if P then B else false) = true then true else G1) = true then true else G2) = false ↔ A = true ∧ (P → B = false) ∧ G1 = false ∧ G2 = false := by
  by_cases h : P <;> cases A <;> cases B <;> cases G1 <;> cases G2 <;> simp [h]
theorem less_or (s p : ByteArray) : (Op.bytesLess s.toList p.toList || same s p) = false ↔ lessB p s = true := by
  rw [Bool.or_eq_false_iff, same_false]
  constructor
  · rintro ⟨h1, h2⟩
    rcases less_total s p with h | h | h
    · unfold lessB at h; rw [h] at h1; cases h1
    · exact absurd h h2
    · exact h
  · intro h
    refine ⟨?_, fun he => ?_⟩
    · rw [← Bool.not_eq_true]
      intro h2
      have := less_trans h h2
      rw [less_irrefl] at this; cases this
    · rw [he, less_irrefl] at h; cases h
theorem sorted_of {xs : List BSet} (h : ∀ j, j < xs.length → SetOk xs j) : Sorted xs := ⟨fun i h0 hi => (h i hi).less h0⟩
theorem s_specBookOk_e : EnterOk Tryd.prog 12 := ⟨_, Tryd.func12, rfl, by decide⟩
@[go_sem] def s_specBookOk_lv : List (List Nat) := [[1], [1, 10], [2], [1, 3], [1, 3, 15], [1, 3], [1, 3, 4], [1, 3, 4, 52], [2], [1, 3, 4, 5], [1, 3, 4, 5, 54], [1, 3, 4, 5], [1, 3, 4, 5, 62], [2], [1, 6], [1, 6, 67], [1, 6], [1, 6, 77], [2], [2]]
@[go_sem] noncomputable def s_specBookOk_K : Known := ((Known.nil).cons 25 ctName s_specName s_specName_e).cons 26 ctRoots s_roots s_roots_e
set_option maxHeartbeats 8000000 in
theorem s_specBookOk : Sound Tryd.prog 12 ctBookOk := by
  have ke := s_specBookOk_K.env []
  have kl : Lives s_specBookOk_lv := trivial
  refine sound_intro (E := ⟨ti, s_specBookOk_K.Γ, []⟩) ke Tryd.func12 Tryd.ntmps12 rfl (rs := [.tmp 2]) rfl ?_
  intro args os hp
  unfold ctBookOk at hp ⊢
  dsimp only at hp ⊢
  split at hp
  · rename_i xs
    refine ⟨by simp, fun φ0 w0 => ?_⟩
    obtain ⟨hlen, hsz⟩ : xs.length ≤ 4000000 ∧ ∀ i : Nat, (xs.getD i ET.bset.dflt).name.size ≤ 9223372036854775807 := hp
    refine goh trivial ?_
    refine W_cnd ?_ ?_ <;> (try simp only [cnd_r]) <;> intro hc
    · have e : bookB xs = false := bookB_false.2 fun h => by have := h.few; omega
      refine goh trivial ?_
      exact finh [] e
    · refine goh trivial ?_
      refine W_le (σ' := sgSb xs 0) [some 0] (by
        simp only [go_sem, inj_r, ↓reduceIte, reduceCtorEq, Nat.reduceAdd, Nat.reduceLT, Nat.reduceLeDiff, Nat.reduceEqDiff, Int.reduceEq]
        all_goals (repeat' refine And.intro ?_ ?_) <;> try exact shut7
        ) ?_
      refine W_loop (fun q σ => ∃ i : Nat, i ≤ xs.length ∧ q = xs.length - i ∧ (∀ j, j < i → SetOk xs j) ∧ σ = sgSb xs i) xs.length ⟨0, by omega, by omega, by omega, rfl⟩ ?_
      rintro q σ ⟨i, hi, rfl, hbef, rfl⟩
      unfold sgSb
      refine goh trivial ?_
      refine W_cnd ?_ ?_ <;> (try simp only [cnd_r]) <;> intro hlt
      · have hsz1 := hsz i
        have w1 : IntKind.i64.wrap ((i : Int) - 1) = (i : Int) - 1 := wrap_id _ (by omega) (by omega)
        have ht : ((i : Int) - 1).toNat = i - 1 := by omega
        refine goh (And.intro w1 ht) ?_
        refine W_cond _ (by exact rfl) (by exact trivial) ?_ ?_ <;> intro hb
        · have e : bookB xs = false := bookB_false.2 fun h => by
            obtain ⟨h1, h2, h3, -⟩ := h.each i (by omega)
            have hx := (bad2 _ _ _ _ _).2 ⟨h1, fun hp : (i : Int) > 0 => (less_or _ _).2 (h2 (by omega)), (show decide ((xs.getD i ET.bset.dflt).kind < 1) = false by rw [decide_eq_false_iff_not]; omega), (show decide ((xs.getD i ET.bset.dflt).kind > 2) = false by rw [decide_eq_false_iff_not]; omega)⟩
            rw [hx] at hb
            cases hb
          refine goh trivial ?_
          exact finh [] e
        · obtain ⟨h1, h2, h3, h4⟩ := (bad2 _ _ _ _ _).1 hb
          rw [decide_eq_false_iff_not] at h3 h4
          obtain ⟨s, hs⟩ : ∃ s, xs.getD i ET.bset.dflt = s := ⟨_, rfl⟩
          refine goh trivial ?_
          refine W_le (σ' := sgSj xs (xs.getD i ET.bset.dflt) i 0) [some 0, some 1] (by
            simp only [go_sem, inj_r, ↓reduceIte, reduceCtorEq, Nat.reduceAdd, Nat.reduceLT, Nat.reduceLeDiff, Nat.reduceEqDiff, Int.reduceEq]
            all_goals (repeat' refine And.intro ?_ ?_) <;> try exact shut7
            ) ?_
          rw [hs] at h1 h2 h3 h4 ⊢
          refine W_loop (fun q σ => ∃ j : Nat, j ≤ 8 ∧ q = 8 - j ∧ ((blk8 s).take j).any long24 = false ∧ σ = sgSj xs s i j) 8 ⟨0, by omega, by omega, rfl, rfl⟩ ?_
          rintro q σ ⟨j, hj, rfl, hbl, rfl⟩
          unfold sgSj
          rcases (show j < 8 ∨ j = 8 by omega) with hj8 | hc8
          · rcases (show j = 0 ∨ j = 1 ∨ j = 2 ∨ j = 3 ∨ j = 4 ∨ j = 5 ∨ j = 6 ∨ j = 7 by omega) with hc8 | hc8 | hc8 | hc8 | hc8 | hc8 | hc8 | hc8
            all_goals
              refine goh hc8 ?_
              refine W_cnd ?_ ?_ <;> intro hlit <;> try (cases hlit; done)
              refine goh hc8 ?_
              refine W_cnd ?_ ?_ <;> (try simp only [cnd_r]) <;> intro hl
              · have hbig : big8 s = true := by
                  unfold big8
                  simp only [List.any_cons, List.any_nil, Bool.or_false, Bool.or_eq_true, long24, decide_eq_true_eq]
                  omega
                have e : bookB xs = false := bookB_false.2 fun h => by
                  have h5 := (h.each i (by omega)).small
                  rw [hs, hbig] at h5; cases h5
                refine goh trivial ?_
                exact finh [] e
              · refine goh hc8 ?_
                refine ⟨8 - (j + 1), [some 0, some 1], sgSj xs s i (j + 1), by omega, ?_, j + 1, by omega, rfl, ?_, rfl⟩
                · exact leh hc8
                · rw [hc8] at hbl ⊢
                  simp only [blk8, List.take_succ_cons, List.take_zero, List.any_cons, List.any_nil, Bool.or_false, Bool.or_eq_false_iff, long24, decide_eq_false_iff_not] at hbl ⊢
                  omega
          · rw [hc8] at hbl
            have hsm : big8 s = false := hbl
            have hset : SetOk xs i := ⟨by rw [hs]; exact h1, fun hp => by rw [hs]; exact (less_or _ _).1 (h2 (by omega)), by rw [hs]; omega, by rw [hs]; exact hsm⟩
            refine goh hc8 ?_
            refine W_cnd ?_ ?_ <;> intro hlit <;> try (cases hlit; done)
            refine goh trivial ?_
            refine ⟨xs.length - (i + 1), [some 0], sgSb xs (i + 1), by omega, ?_, i + 1, by omega, rfl, fun j hj => ?_, rfl⟩
            · exact leh trivial
            · rcases Nat.lt_succ_iff_lt_or_eq.1 hj with h | rfl
              · exact hbef j h
              · exact hset
      · refine goh trivial ?_
        refine W_le (σ' := sgSr2 xs 0) [some 0] (by
          simp only [go_sem, inj_r, ↓reduceIte, reduceCtorEq, Nat.reduceAdd, Nat.reduceLT, Nat.reduceLeDiff, Nat.reduceEqDiff, Int.reduceEq]
          all_goals (repeat' refine And.intro ?_ ?_) <;> try exact shut7
          ) ?_
        have hall : ∀ j, j < xs.length → SetOk xs j := fun j hj => hbef j (by omega)
        have hso := sorted_of hall
        refine W_loop (fun q σ => ∃ i : Nat, i ≤ xs.length ∧ q = xs.length - i ∧ (∀ j, j < i → leadsN xs xs.length (xs.getD j ET.bset.dflt) = true) ∧ σ = sgSr2 xs i) xs.length ⟨0, by omega, by omega, by omega, rfl⟩ ?_
        clear hbef hlt hi
        clear i
        rintro q σ ⟨i, hi, rfl, hbef, rfl⟩
        unfold sgSr2
        refine goh trivial ?_
        refine W_cnd ?_ ?_ <;> (try simp only [cnd_r]) <;> intro hlt
        · have hm := leads_more xs i (by omega)
          refine goh hm ?_
          refine W_cond _ (by exact rfl) (by exact trivial) ?_ ?_ <;> intro hl
          · have e : bookB xs = false := bookB_false.2 fun h => by
              have h1 := h.leads
              rw [List.any_eq_false] at h1
              have h2 := h1 (xs.getD i ET.bset.dflt) (by simp [show i < xs.length by omega])
              simp only [Bool.not_eq_true', Bool.not_eq_false] at h2 hl
              rw [hl] at h2
              simp at h2
            refine goh trivial ?_
            exact finh [] e
          · have hl2 : leadsN xs xs.length (xs.getD i ET.bset.dflt) = true := by simpa only [Bool.not_eq_false'] using hl
            refine goh trivial ?_
            refine ⟨xs.length - (i + 1), [some 0], sgSr2 xs (i + 1), by omega, ?_, i + 1, by omega, rfl, fun j hj => ?_, rfl⟩
            · exact leh trivial
            · rcases Nat.lt_succ_iff_lt_or_eq.1 hj with h | rfl
              · exact hbef j h
              · exact hl2
        · have e : bookB xs = true := bookB_true.2 ⟨by omega, hall, by
            rw [List.any_eq_false]
            intro s hs
            obtain ⟨j, hj, rfl⟩ := List.getElem_of_mem hs
            have h1 := hbef j (by omega)
            rw [show xs.getD j ET.bset.dflt = xs[j] by simp [hj]] at h1
            rw [h1]; decide⟩
          refine goh trivial ?_
          exact finh [] e
  · simp [no, ifp] at hp
end Go.Proofs.YtjedcphhajlnoaaDoor
/- Plain facts: halves, ascending places. -/
namespace Go.Proofs.YtjedcphhajlnoaaDoor
open Go.RowKit

theorem half (i j : Nat) (hi : i ≤ 4000000) (hj : j ≤ 4000000) : IntKind.i64.wrap ((IntKind.u64.wrap (IntKind.i64.wrap ((i : Int) + (j : Int)))).fdiv (2 ^ min 1 64)) = ((i + j) / 2 : Nat) := by
  rw [wrap_id ((i : Int) + j) (by omega) (by omega)]
  have hu : IntKind.u64.wrap ((i : Int) + j) = (i : Int) + j := by
    unfold IntKind.wrap
    simp [IntKind.signed, IntKind.bits]
    omega
  rw [hu, show ((2 : Int) ^ min 1 64) = 2 from rfl, Int.fdiv_eq_ediv_of_nonneg _ (by decide), wrap_id _ (by omega) (by omega)]
  omega
end Go.Proofs.YtjedcphhajlnoaaDoor
/-
  DERIVED: THE SHELF's CONTRACTS AT THIS DUMP, IN PLAIN WORDS (tools/lay-plain.mjs out of 'YtjedcphhajlnoaaDoorTSh2Q.lean', which tools/lay-shelf.mjs wrote): THE SAME DECLARATIONS UNDER THE SAME NAMES: 'import', 'namespace', 'open', 'def', 'theorem' AND NOTHING ELSE: no command of the shelf's: FOR A HAND-IN. Each laying: the table of numbers ('.._ren') and one theorem, a field a fact of the dump's own or the kernel's comparison; each contract: ONE APPLICATION.
-/
namespace Go.Proofs
open Go.Shelf
def Tryd.lays213_ren : Go.Shelf.Ren := ⟨fun | 213 => 69 | 265 => 84 | n => n, fun | 9 => 9 | 3 => 3 | n => n, fun | n => n⟩
theorem Tryd.lays213 : Go.Proofs.Lays.n213 Tryd.prog Tryd.lays213_ren := {
  mixed := by kernel_rfl
  f213 := Tryd.func69.trans (congrArg some (by kernel_rfl))
  f265 := Tryd.func84.trans (congrArg some (by kernel_rfl))
  t3 := Tryd.underlying3
  a3 := Tryd.isAgg3
  z3 := Tryd.sizeOf3
  v3 := Tryd.zeroValue3
  t9 := Tryd.underlying9
  a9 := Tryd.isAgg9
  z9 := Tryd.sizeOf9
  v9 := Tryd.zeroValue9 }
end Go.Proofs
/- Functions: where a set stands, the program's. -/
namespace Go.Proofs.YtjedcphhajlnoaaDoor
open Go.RowKit

def cmpB (a b : ByteArray) : Int := Lib.compareBytes a.data.toList b.data.toList
theorem cmp_less : ∀ x y : List UInt8, Lib.compareBytes x y < 0 ↔ Op.bytesLess x y = true
  | [], [] => by simp [Lib.compareBytes, Op.bytesLess]
  | [], _ :: _ => by simp [Lib.compareBytes, Op.bytesLess]
  | _ :: _, [] => by simp [Lib.compareBytes, Op.bytesLess]
  | a :: x, b :: y => by
    simp only [Lib.compareBytes, Op.bytesLess, Bool.or_eq_true, Bool.and_eq_true, decide_eq_true_eq, beq_iff_eq]
    by_cases h : a < b
    · simp [h]
    · by_cases h2 : b < a
      · have hne : a ≠ b := fun e => by subst e; exact h h2
        simp [h, h2, hne]
      · have e : a = b := by
          rw [UInt8.lt_iff_toNat_lt] at h h2
          exact UInt8.toNat_inj.1 (by omega)
        subst e
        simp [h, cmp_less x y]
theorem cmp_same : ∀ x y : List UInt8, Lib.compareBytes x y = 0 ↔ x = y
  | [], [] => by simp [Lib.compareBytes]
  | [], _ :: _ => by simp [Lib.compareBytes]
  | _ :: _, [] => by simp [Lib.compareBytes]
  | a :: x, b :: y => by
    simp only [Lib.compareBytes]
    by_cases h : a < b
    · have hne : a ≠ b := fun e => by
        subst e; rw [UInt8.lt_iff_toNat_lt] at h; omega
      simp [h, hne]
    · by_cases h2 : b < a
      · have hne : a ≠ b := fun e => by subst e; exact h h2
        simp [h, h2, hne]
      · have e : a = b := by
          rw [UInt8.lt_iff_toNat_lt] at h h2
          exact UInt8.toNat_inj.1 (by omega)
        subst e
        simp [h, cmp_same x y]
theorem cmpB_less (a b : ByteArray) : decide (cmpB a b < 0) = lessB a b := by
  rw [Bool.eq_iff_iff, decide_eq_true_eq]
  unfold cmpB lessB
  rw [cmp_less, ByteArray.toList_eq, ByteArray.toList_eq]
theorem cmpB_same (a b : ByteArray) : (cmpB a b == 0) = same a b := by
  rw [Bool.eq_iff_iff, beq_iff_eq, same_true]
  unfold cmpB
  rw [cmp_same]
  constructor
  · intro h
    obtain ⟨⟨a⟩⟩ := a
    obtain ⟨⟨b⟩⟩ := b
    simpa using h
  · rintro rfl; rfl
@[go_sem] def ctCmp : Ct := ⟨false, [], fun args os => match args, os with
  | [.one (.val (.string a)), .one (.val (.string b))], [] => is (vi (cmpB a b))
  | _, _ => no⟩
theorem s_cmpStr_e : EnterOk Tryd.prog 69 := ⟨_, Tryd.func69, rfl, by decide⟩
theorem s_cmpStr : Sound Tryd.prog 69 ctCmp := by
  refine sound_plain fun args os hp => ?_
  unfold ctCmp at hp ⊢
  dsimp only at hp ⊢
  split at hp
  · rename_i a b
    refine ⟨rfl, [.string a, .string b], .int .i64 (cmpB a b), rfl, rfl, fun w _ => ?_⟩
    refine (Any.bytealg_CompareString Tryd.lays213 a b w).mono ?_
    rintro e w' ⟨rfl, rfl⟩
    exact ⟨rfl, Below.refl _ _⟩
  · exact hp.elim
theorem s_compare_e : EnterOk Tryd.prog 52 := ⟨_, Tryd.func52, rfl, by decide⟩
@[go_sem] def s_compare_lv : List (List Nat) := [[0, 1], [4]]
@[go_sem] noncomputable def s_compare_K : Known := (Known.nil).cons 69 ctCmp s_cmpStr s_cmpStr_e
set_option maxHeartbeats 8000000 in
theorem s_compare : Sound Tryd.prog 52 ctCmp := by
  have ke := s_compare_K.env []
  have kl : Lives s_compare_lv := trivial
  refine sound_intro (E := ⟨ti, s_compare_K.Γ, []⟩) ke Tryd.func52 Tryd.ntmps52 rfl (rs := [.tmp 4]) rfl ?_
  intro args os hp
  unfold ctCmp at hp ⊢
  dsimp only at hp ⊢
  split at hp
  · rename_i a b
    refine ⟨by simp, fun φ0 w0 => ?_⟩
    refine goh trivial ?_
    exact finh [] trivial
  · simp [no, is] at hp
@[go_sem] def ctPlace1 : Ct := ⟨false, [], fun args os => match args, os with
  | [.agg cs, .one (.val (.string b))], [] => (match bsetOf cs with | some s => is (vi (cmpB s.name b)) | none => no)
  | _, _ => no⟩
theorem s_place1_e : EnterOk Tryd.prog 51 := ⟨_, Tryd.func51, rfl, by decide⟩
@[go_sem] def s_place1_lv : List (List Nat) := [[1, 2], [4]]
@[go_sem] noncomputable def s_place1_K : Known := (Known.nil).cons 52 ctCmp s_compare s_compare_e
set_option maxHeartbeats 8000000 in
theorem s_place1 : Sound Tryd.prog 51 ctPlace1 := by
  have ke := s_place1_K.env []
  have kl : Lives s_place1_lv := trivial
  refine sound_intro (E := ⟨ti, s_place1_K.Γ, []⟩) ke Tryd.func51 Tryd.ntmps51 rfl (rs := [.tmp 4]) rfl ?_
  intro args os hp
  unfold ctPlace1 at hp ⊢
  dsimp only at hp ⊢
  split at hp
  · rename_i cs b
    split at hp
    · rename_i s hs
      obtain rfl := bsetOf_some hs
      clear hs hp
      refine ⟨by simp, fun φ0 w0 => ?_⟩
      refine goh trivial ?_
      exact finh [] trivial
    · simp [no] at hp
  · simp [no] at hp
@[go_sem] noncomputable def ctSearch : Ct := ⟨false, [[some .bset]], fun args os => match args, os with
  | [.one (.isl .bset xs), .one (.val (.string name)), .one (.fn 51 [])], [] => ifp (xs.length ≤ 4000000 ∧ Sorted xs) (.tup [vi (lowN xs name), vb (thereB xs name)])
  | _, _ => no⟩
@[go_sem] def sgSearch (xs : List BSet) (name : ByteArray) (i j : Nat) : Sg := ⟨[(0, .one (.isl .bset xs)), (1, vs name), (2, .one (.fn 51 [])), (8, vi xs.length), (9, vi i), (10, vi j)], [], []⟩
theorem Sorted.high {xs : List BSet} (h : Sorted xs) (name : ByteArray) {i j : Nat} (hij : i ≤ j) (hj : j < xs.length) (hs : lessB (xs.getD i ET.bset.dflt).name name = false) : lessB (xs.getD j ET.bset.dflt).name name = false := by
  rcases Nat.eq_or_lt_of_le hij with rfl | hlt
  · exact hs
  · rw [← Bool.not_eq_true]
    intro h1
    have h2 := h.lt i (j - i - 1) (by omega)
    rw [show i + (j - i - 1) + 1 = j by omega] at h2
    rw [less_trans h2 h1] at hs; cases hs
theorem Sorted.low {xs : List BSet} (h : Sorted xs) (name : ByteArray) {i j : Nat} (hij : i ≤ j) (hj : j < xs.length) (hs : lessB (xs.getD j ET.bset.dflt).name name = true) : lessB (xs.getD i ET.bset.dflt).name name = true := by
  rw [← Bool.not_eq_false]
  intro h1
  rw [h.high name hij hj h1] at hs; cases hs
theorem s_search_e : EnterOk Tryd.prog 50 := ⟨_, Tryd.func50, rfl, by decide⟩
@[go_sem] def s_search_lv : List (List Nat) := [[0, 1, 2], [0, 1, 2, 8], [0, 1, 2, 8, 9, 10], [0, 1, 2, 8, 9, 10, 17], [0, 1, 2, 8, 9, 10, 11], [0, 1, 2, 8, 9, 10, 11, 31], [0, 1, 2, 8, 9, 10], [0, 1, 2, 8, 9, 10], [6, 7]]
@[go_sem] noncomputable def s_search_K : Known := (Known.nil).cons 51 ctPlace1 s_place1 s_place1_e
set_option maxHeartbeats 8000000 in
theorem s_search : Sound Tryd.prog 50 ctSearch := by
  have ke := s_search_K.env []
  have kl : Lives s_search_lv := trivial
  refine sound_intro (E := ⟨ti, s_search_K.Γ, []⟩) ke Tryd.func50 Tryd.ntmps50 rfl (rs := [.tmp 6, .tmp 7]) rfl ?_
  intro args os hp
  unfold ctSearch at hp ⊢
  dsimp only at hp ⊢
  split at hp
  · rename_i xs name
    refine ⟨by simp, fun φ0 w0 => ?_⟩
    obtain ⟨hlen, hso⟩ : xs.length ≤ 4000000 ∧ Sorted xs := hp
    refine goh trivial ?_
    refine W_le (σ' := sgSearch xs name 0 xs.length) [] (by
      simp only [go_sem, inj_r, ↓reduceIte, reduceCtorEq, Nat.reduceAdd, Nat.reduceLT, Nat.reduceLeDiff, Nat.reduceEqDiff, Int.reduceEq]
      all_goals (repeat' refine And.intro ?_ ?_) <;> try exact shut7
      ) ?_
    refine W_loop (fun q σ => ∃ i j : Nat, i ≤ j ∧ j ≤ xs.length ∧ q = j - i ∧ (∀ k, k < i → lessB (xs.getD k ET.bset.dflt).name name = true) ∧ (j < xs.length → lessB (xs.getD j ET.bset.dflt).name name = false) ∧ σ = sgSearch xs name i j) xs.length ⟨0, xs.length, by omega, by omega, by omega, by omega, by omega, rfl⟩ ?_
    rintro q σ ⟨i, j, hij, hj, rfl, hlo, hhi, rfl⟩
    unfold sgSearch
    refine goh trivial ?_
    refine W_cnd ?_ ?_ <;> (try simp only [cnd_r]) <;> intro hlt
    · have hH := half i j (by omega) (by omega)
      obtain ⟨h, hh⟩ : ∃ h, (i + j) / 2 = h := ⟨_, rfl⟩
      rw [hh] at hH
      repeat' first
        | with_reducible refine red ?_
        | refine W_seq ?_
        | (refine W_reg (s_search_K.env []) s_search_lv fun K' hK' => ?_
           simp only [go_sem, hH, cmpB_less, ↓reduceIte, ↓reduceDIte, reduceCtorEq, Nat.reduceAdd, Nat.reduceMul, Nat.reduceSub, Nat.reduceDiv, Nat.reduceMod, Nat.reduceLT, Nat.reduceLeDiff, Nat.reduceEqDiff, Nat.reduceBEq, Int.reduceToNat, Int.reduceLE, Int.reduceLT, Int.reduceEq, Int.reduceNe, Int.reduceNeg]
           (repeat' refine And.intro ?_ ?_) <;> try first | with_reducible refine hK' ?_ | exact shut6)
        | with_reducible refine blockG_o (by decide) ?_
      refine W_cond _ (by exact rfl) (by exact trivial) ?_ ?_ <;> intro hc
      · refine goh trivial ?_
        refine ⟨j - (h + 1), [], sgSearch xs name (h + 1) j, by omega, ?_, h + 1, j, by omega, hj, rfl, fun k hk => hso.low name (show k ≤ h by omega) (by omega) hc, hhi, rfl⟩
        exact leh trivial
      · refine goh trivial ?_
        refine ⟨h - i, [], sgSearch xs name i h, by omega, ?_, i, h, by omega, by omega, rfl, hlo, fun _ => hc, rfl⟩
        exact leh trivial
    · obtain rfl : i = j := by omega
      have e : lowN xs name = i := lowN_eq hj hlo (by
        by_cases h : i < xs.length
        · exact .inr (hhi h)
        · exact .inl (by omega))
      repeat' first
        | with_reducible refine red ?_
        | refine W_seq ?_
        | (refine W_reg (s_search_K.env []) s_search_lv fun K' hK' => ?_
           simp only [go_sem, cmpB_same, ↓reduceIte, ↓reduceDIte, reduceCtorEq, Nat.reduceAdd, Nat.reduceMul, Nat.reduceSub, Nat.reduceDiv, Nat.reduceMod, Nat.reduceLT, Nat.reduceLeDiff, Nat.reduceEqDiff, Nat.reduceBEq, Int.reduceToNat, Int.reduceLE, Int.reduceLT, Int.reduceEq, Int.reduceNe, Int.reduceNeg]
           (repeat' refine And.intro ?_ ?_) <;> try first | with_reducible refine hK' ?_ | exact shut6)
        | with_reducible refine blockG_o (by decide) ?_
      refine ⟨by (simp only [go_sem, e, ↓reduceIte, reduceCtorEq, Nat.reduceAdd, Nat.reduceLT, Nat.reduceLeDiff, Nat.reduceEqDiff]) <;> trivial, [], ?_⟩
      all_goals try simp only [go_sem, e, inj_r, ↓reduceIte, reduceCtorEq, Nat.reduceAdd, Nat.reduceLT, Nat.reduceLeDiff, Nat.reduceEqDiff, Int.reduceEq]
      all_goals (repeat' refine And.intro ?_ ?_) <;> try exact shut7
      unfold thereB
      rw [e]
      by_cases h : (i : Int) < xs.length
      · rw [if_pos h, decide_eq_true (show i < xs.length by omega), Bool.true_and]
      · rw [if_neg h, decide_eq_false (show ¬ i < xs.length by omega), Bool.false_and]
  · simp [no, ifp] at hp
end Go.Proofs.YtjedcphhajlnoaaDoor
/- Functions: a set and those from which it comes. -/
namespace Go.Proofs.YtjedcphhajlnoaaDoor
open Go.RowKit

noncomputable def lineN (xs : List BSet) : Nat → ByteArray → List ByteArray
  | 0, _ => []
  | n + 1, name => if thereB xs name = true then name :: lineN xs n (xs.getD (lowN xs name) ET.bset.dflt).from_ else []
theorem line_len (xs : List BSet) : ∀ (n : Nat) (name : ByteArray), (lineN xs n name).length ≤ n
  | 0, _ => Nat.le_refl _
  | n + 1, name => by
    unfold lineN
    split
    · have := line_len xs n (xs.getD (lowN xs name) ET.bset.dflt).from_
      simp only [List.length_cons]; omega
    · exact Nat.zero_le _
theorem line_none {xs : List BSet} {name : ByteArray} (h : thereB xs name = false) : ∀ n, lineN xs n name = []
  | 0 => rfl
  | n + 1 => by unfold lineN; rw [if_neg (by rw [h]; decide)]
/-- The way up from a name ends in so many rounds. -/
def Ends (xs : List BSet) (m : Nat) (name : ByteArray) : Prop := thereB xs name = true → leadsN xs m (xs.getD (lowN xs name) ET.bset.dflt) = true
theorem empty_none {xs : List BSet} (h : BookP xs) : thereB xs ⟨#[]⟩ = false := by
  rw [← Bool.not_eq_true]
  intro ht
  obtain ⟨h1, h2⟩ := there_lt ht
  have h3 := (h.each _ h1).name
  rw [h2] at h3
  exact absurd h3 (by decide)
theorem ends_next {xs : List BSet} (h : BookP xs) {m : Nat} {name : ByteArray} (he : Ends xs m name) (ht : thereB xs name = true) : ∃ k, m = k + 1 ∧ Ends xs k (xs.getD (lowN xs name) ET.bset.dflt).from_ := by
  have h1 := he ht
  cases m with
  | zero => simp [leadsN] at h1
  | succ k =>
    refine ⟨k, rfl, fun ht2 => ?_⟩
    unfold leadsN at h1
    by_cases hf : same (xs.getD (lowN xs name) ET.bset.dflt).from_ ⟨#[]⟩ = true
    · rw [same_true.1 hf, empty_none h] at ht2; cases ht2
    · rw [if_neg hf] at h1
      split at h1
      · cases h1
      · have hat := (at_low (book_sorted h) (xs.getD (lowN xs name) ET.bset.dflt).from_).1 ht2
        unfold setOf at h1
        rw [hat] at h1
        exact h1
theorem line_more {xs : List BSet} (h : BookP xs) : ∀ (m : Nat) (name : ByteArray), Ends xs m name → lineN xs (m + 1) name = lineN xs m name
  | m, name, he => by
    cases ht : thereB xs name with
    | false => rw [line_none ht, line_none ht]
    | true =>
      obtain ⟨k, rfl, h2⟩ := ends_next h he ht
      have ih := line_more h k _ h2
      show (if thereB xs name = true then name :: lineN xs (k + 1) _ else []) = (if thereB xs name = true then name :: lineN xs k _ else [])
      rw [if_pos ht, if_pos ht, ih]
theorem ends_first {xs : List BSet} (h : BookP xs) (name : ByteArray) : Ends xs xs.length name := fun ht => by
  obtain ⟨h1, -⟩ := there_lt ht
  have h2 := h.leads
  rw [List.any_eq_false] at h2
  have h3 := h2 (xs.getD (lowN xs name) ET.bset.dflt) (by simp [h1])
  simpa using h3
noncomputable def treeLine (xs : List BSet) (name : ByteArray) : List ByteArray := if bookB xs = true then lineN xs xs.length name else []
theorem treeLine_len (xs : List BSet) (name : ByteArray) : (treeLine xs name).length ≤ xs.length := by
  unfold treeLine
  split
  · exact line_len xs _ name
  · exact Nat.zero_le _
@[go_sem] noncomputable def ctPlace : Ct := ⟨false, [[some .bset]], fun args os => match args, os with
  | [.agg [.isl .bset xs], .one (.val (.string name))], [] => ifp (xs.length ≤ 4000000 ∧ Sorted xs) (.tup [vi (lowN xs name), vb (thereB xs name)])
  | _, _ => no⟩
theorem s_place_e : EnterOk Tryd.prog 20 := ⟨_, Tryd.func20, rfl, by decide⟩
@[go_sem] def s_place_lv : List (List Nat) := [[1, 2], [4, 5]]
@[go_sem] noncomputable def s_place_K : Known := ((Known.nil).cons 50 ctSearch s_search s_search_e).cons 51 ctPlace1 s_place1 s_place1_e
set_option maxHeartbeats 8000000 in
theorem s_place : Sound Tryd.prog 20 ctPlace := by
  have ke := s_place_K.env []
  have kl : Lives s_place_lv := trivial
  refine sound_intro (E := ⟨ti, s_place_K.Γ, []⟩) ke Tryd.func20 Tryd.ntmps20 rfl (rs := [.tmp 4, .tmp 5]) rfl ?_
  intro args os hp
  unfold ctPlace at hp ⊢
  dsimp only at hp ⊢
  split at hp
  · rename_i xs name
    refine ⟨by simp, fun φ0 w0 => ?_⟩
    obtain ⟨hlen, hso⟩ : xs.length ≤ 4000000 ∧ Sorted xs := hp
    refine goh trivial ?_
    exact finh [] trivial
  · simp [no, ifp] at hp
@[go_sem] noncomputable def ctTreeLine : Ct := ⟨false, [[some .bset]], fun args os => match args, os with
  | [.agg [.isl .bset xs], .one (.val (.string name))], [] => ⟨xs.length ≤ 4000000 ∧ ∀ i : Nat, (xs.getD i ET.bset.dflt).name.size ≤ 9223372036854775807, .one (.osl .str 0 0 (treeLine xs name).length), [], [.arr .str (treeLine xs name)]⟩
  | _, _ => no⟩
@[go_sem] noncomputable def sgTl (xs : List BSet) (name : ByteArray) (ys : List ByteArray) : Sg := ⟨[(1, vs name), (2, .one (.ptr 0 0)), (5, .one (.osl .str 1 0 ys.length))], [some (.cells [.isl .bset xs]), some (.arr .str ys)], []⟩
theorem s_treeLine_e : EnterOk Tryd.prog 6 := ⟨_, Tryd.func6, rfl, by decide⟩
@[go_sem] def s_treeLine_lv : List (List Nat) := [[1, 2], [1, 2, 10], [4], [1, 2, 5], [1, 2, 5, 6, 7], [1, 2, 5, 6, 18], [4], [2, 5, 6], [1, 2, 5]]
@[go_sem] noncomputable def s_treeLine_K : Known := ((Known.nil).cons 19 ctBookOk s_bookOk s_bookOk_e).cons 20 ctPlace s_place s_place_e
set_option maxHeartbeats 8000000 in
theorem s_treeLine : Sound Tryd.prog 6 ctTreeLine := by
  have ke := s_treeLine_K.env []
  have kl : Lives s_treeLine_lv := trivial
  refine sound_intro (E := ⟨ti, s_treeLine_K.Γ, []⟩) ke Tryd.func6 Tryd.ntmps6 rfl (rs := [.tmp 4]) rfl ?_
  intro args os hp
  unfold ctTreeLine at hp ⊢
  dsimp only at hp ⊢
  split at hp
  · rename_i xs name0
    refine ⟨by simp, fun φ0 w0 => ?_⟩
    obtain ⟨hlen, hsz⟩ : xs.length ≤ 4000000 ∧ ∀ i : Nat, (xs.getD i ET.bset.dflt).name.size ≤ 9223372036854775807 := hp
    refine goh trivial ?_
    refine W_cond _ (by exact rfl) (by exact trivial) ?_ ?_ <;> intro hc
    · have e : treeLine xs name0 = [] := by unfold treeLine; rw [if_neg (by simpa using hc)]
      refine goh trivial ?_
      exact finh [none] e
    · have hb : bookB xs = true := by simpa using hc
      have hB := bookB_true.1 hb
      have hso := book_sorted hB
      have et : treeLine xs name0 = lineN xs xs.length name0 := by unfold treeLine; rw [if_pos hb]
      refine goh trivial ?_
      refine W_le (σ' := sgTl xs name0 []) [some 0, none] (by
        simp only [go_sem, inj_r, ↓reduceIte, reduceCtorEq, Nat.reduceAdd, Nat.reduceLT, Nat.reduceLeDiff, Nat.reduceEqDiff, Int.reduceEq]
        all_goals (repeat' refine And.intro ?_ ?_) <;> try exact shut7
        ) ?_
      refine W_loop (fun q σ => ∃ (m : Nat) (name : ByteArray) (ys : List ByteArray), q = m ∧ ys.length + m = xs.length ∧ Ends xs m name ∧ ys ++ lineN xs m name = treeLine xs name0 ∧ σ = sgTl xs name ys) xs.length ⟨xs.length, name0, [], rfl, by simp, ends_first hB name0, by rw [et]; rfl, rfl⟩ ?_
      rintro q σ ⟨m, name, ys, rfl, hl, he, hy, rfl⟩
      unfold sgTl
      refine goh trivial ?_
      refine W_cond _ (by exact rfl) (by exact trivial) ?_ ?_ <;> intro ht
      · have ht2 : thereB xs name = false := by simpa using ht
        rw [line_none ht2, List.append_nil] at hy
        refine goh trivial ?_
        exact finh [some 1] hy
      · have ht2 : thereB xs name = true := by simpa using ht
        obtain ⟨k, rfl, he2⟩ := ends_next hB he ht2
        have hlow := (there_lt ht2).1
        have hy2 : (ys ++ [name]) ++ lineN xs k (xs.getD (lowN xs name) ET.bset.dflt).from_ = treeLine xs name0 := by
          rw [← hy]
          conv => rhs; unfold lineN
          rw [if_pos ht2, List.append_assoc]; rfl
        refine goh trivial ?_
        refine ⟨k, [some 0, some 3], sgTl xs (xs.getD (lowN xs name) ET.bset.dflt).from_ (ys ++ [name]), by omega, ?_, k, _, _, rfl, by rw [List.length_append, List.length_singleton]; omega, he2, hy2, rfl⟩
        exact leh trivial
  · simp [no] at hp
@[go_sem] noncomputable def sgSl (xs : List BSet) (name : ByteArray) (ys : List ByteArray) (i : Nat) : Sg := ⟨[(1, vs name), (2, .one (.ptr 0 0)), (5, .one (.osl .str 1 0 ys.length)), (6, vi i)], [some (.cells [.isl .bset xs]), some (.arr .str ys)], []⟩
theorem s_specTreeLine_e : EnterOk Tryd.prog 9 := ⟨_, Tryd.func9, rfl, by decide⟩
@[go_sem] def s_specTreeLine_lv : List (List Nat) := [[1, 2], [1, 2, 5], [1, 2, 5, 6], [1, 2, 5, 6, 18], [1, 2, 5, 6], [1, 2, 5, 6, 7, 8], [1, 2, 5, 6, 7, 28], [4], [2, 5, 6, 7], [1, 2, 5, 6], [4]]
@[go_sem] noncomputable def s_specTreeLine_K : Known := ((Known.nil).cons 12 ctBookOk s_specBookOk s_specBookOk_e).cons 22 ctAt s_l4At s_l4At_e
set_option maxHeartbeats 8000000 in
theorem s_specTreeLine : Sound Tryd.prog 9 ctTreeLine := by
  have ke := s_specTreeLine_K.env []
  have kl : Lives s_specTreeLine_lv := trivial
  refine sound_intro (E := ⟨ti, s_specTreeLine_K.Γ, []⟩) ke Tryd.func9 Tryd.ntmps9 rfl (rs := [.tmp 4]) rfl ?_
  intro args os hp
  unfold ctTreeLine at hp ⊢
  dsimp only at hp ⊢
  split at hp
  · rename_i xs name0
    refine ⟨by simp, fun φ0 w0 => ?_⟩
    obtain ⟨hlen, hsz⟩ : xs.length ≤ 4000000 ∧ ∀ i : Nat, (xs.getD i ET.bset.dflt).name.size ≤ 9223372036854775807 := hp
    refine goh trivial ?_
    refine W_le (σ' := sgSl xs name0 [] 0) [some 0, some 1] (by
      simp only [go_sem, inj_r, ↓reduceIte, reduceCtorEq, Nat.reduceAdd, Nat.reduceLT, Nat.reduceLeDiff, Nat.reduceEqDiff, Int.reduceEq]
      all_goals (repeat' refine And.intro ?_ ?_) <;> try exact shut7
      ) ?_
    cases hb : bookB xs with
    | false =>
      have e : treeLine xs name0 = [] := by unfold treeLine; rw [if_neg (by rw [hb]; decide)]
      refine W_loop (fun q σ => q = 0 ∧ σ = sgSl xs name0 [] 0) 0 ⟨rfl, rfl⟩ ?_
      rintro q σ ⟨rfl, rfl⟩
      unfold sgSl
      refine goh hb ?_
      refine W_cnd ?_ ?_ <;> intro hlit <;> try (cases hlit; done)
      refine goh trivial ?_
      exact finh [some 1] e
    | true =>
      have hB := bookB_true.1 hb
      have et : treeLine xs name0 = lineN xs (xs.length + 1) name0 := by unfold treeLine; rw [if_pos hb, line_more hB _ _ (ends_first hB name0)]
      refine W_loop (fun q σ => ∃ (i : Nat) (name : ByteArray) (ys : List ByteArray), q = xs.length + 1 - i ∧ i ≤ xs.length + 1 ∧ ys.length = i ∧ ys ++ lineN xs (xs.length + 1 - i) name = treeLine xs name0 ∧ σ = sgSl xs name ys i) (xs.length + 1) ⟨0, name0, [], rfl, by omega, rfl, by rw [et]; rfl, rfl⟩ ?_
      rintro q σ ⟨i, name, ys, rfl, hi, hl, hy, rfl⟩
      unfold sgSl
      refine goh hb ?_
      refine W_cnd ?_ ?_ <;> (try simp only [cnd_r]) <;> intro hlt
      · obtain ⟨k, hk⟩ : ∃ k, xs.length + 1 - i = k + 1 := ⟨xs.length - i, by omega⟩
        rw [hk] at hy
        refine goh trivial ?_
        refine W_cond _ (by exact rfl) (by exact trivial) ?_ ?_ <;> intro ht
        · have ht2 : thereB xs name = false := by simpa using ht
          rw [line_none ht2, List.append_nil] at hy
          refine goh trivial ?_
          refine ⟨by (simp only [go_sem, ← hy, ↓reduceIte, reduceCtorEq, Nat.reduceAdd, Nat.reduceLT, Nat.reduceLeDiff, Nat.reduceEqDiff]) <;> trivial, [some 1], ?_⟩
          all_goals try simp only [go_sem, ← hy, inj_r, ↓reduceIte, reduceCtorEq, Nat.reduceAdd, Nat.reduceLT, Nat.reduceLeDiff, Nat.reduceEqDiff, Int.reduceEq]
          all_goals (repeat' refine And.intro ?_ ?_) <;> try exact shut7
        · have ht2 : thereB xs name = true := by simpa using ht
          have hlow := (there_lt ht2).1
          have hy2 : (ys ++ [name]) ++ lineN xs k (xs.getD (lowN xs name) ET.bset.dflt).from_ = treeLine xs name0 := by
            rw [← hy]
            conv => rhs; unfold lineN
            rw [if_pos ht2, List.append_assoc]; rfl
          refine goh trivial ?_
          refine ⟨xs.length + 1 - (i + 1), [some 0, some 3], sgSl xs (xs.getD (lowN xs name) ET.bset.dflt).from_ (ys ++ [name]) (i + 1), by omega, ?_, i + 1, _, _, rfl, by omega, by rw [List.length_append, List.length_singleton, hl], by rw [show xs.length + 1 - (i + 1) = k by omega]; exact hy2, rfl⟩
          exact leh trivial
      · have h0 : xs.length + 1 - i = 0 := by omega
        rw [h0] at hy
        have hy2 : ys = treeLine xs name0 := by rw [← hy]; exact (List.append_nil _).symm
        refine goh trivial ?_
        refine ⟨by (simp only [go_sem, ← hy2, ↓reduceIte, reduceCtorEq, Nat.reduceAdd, Nat.reduceLT, Nat.reduceLeDiff, Nat.reduceEqDiff]) <;> trivial, [some 1], ?_⟩
        all_goals try simp only [go_sem, ← hy2, inj_r, ↓reduceIte, reduceCtorEq, Nat.reduceAdd, Nat.reduceLT, Nat.reduceLeDiff, Nat.reduceEqDiff, Int.reduceEq]
        all_goals (repeat' refine And.intro ?_ ?_) <;> try exact shut7
  · simp [no] at hp
end Go.Proofs.YtjedcphhajlnoaaDoor
