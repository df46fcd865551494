/- Functions: disks. -/
import Derived.Test.YtfmeopnankeaeaaTFa
set_option linter.unusedSimpArgs false
set_option linter.unusedVariables false
set_option linter.unusedSectionVars false
namespace Go.Proofs.Ytfmeopnankeaeaa
open Go.RowKit

/-- A sector of n, of two sides. -/
def sector (n : Nat) (side at_ : Int) : Bool := (decide (0 ≤ side) && decide (side ≤ 1)) && (decide (0 ≤ at_) && decide (at_ ≤ (n : Int) - 1))
@[go_sem] def ctIsSector : Ct := ⟨false, [[some .str, some .str, some .late]], fun args os => match args, os with
  | [.agg [.isl .str a, .isl .str b, .isl .late l], .one (.val (.int .i64 s)), .one (.val (.int .i64 k))], [] => ifp (a.length ≤ 4000000) (vb (sector a.length s k))
  | _, _ => no⟩
theorem s_isSector_e : EnterOk Try.prog 45 := ⟨_, Try.func45, rfl, by decide⟩
@[go_sem] def s_isSector_lv : List (List Nat) := [[1, 2, 3], [6]]
@[go_sem] noncomputable def s_isSector_K : Known := (Known.nil).cons 46 ctWithin s_within s_within_e
set_option maxHeartbeats 8000000 in
theorem s_isSector : Sound Try.prog 45 ctIsSector := by
  refine sound_intro (E := ⟨ti, s_isSector_K.Γ, []⟩) (s_isSector_K.env []) Try.func45 Try.ntmps45 rfl (rs := [.tmp 6]) rfl ?_
  intro args os hp
  unfold ctIsSector at hp ⊢
  dsimp only at hp ⊢
  split at hp
  · rename_i a b l s k
    refine ⟨by simp, fun φ0 w0 => ?_⟩
    have hlen : a.length ≤ 4000000 := hp
    clear hp
    repeat' first
      | refine W_seq ?_
      | (refine W_reg (s_isSector_K.env []) s_isSector_lv fun K' hK' => ?_
         simp only [go_sem, ↓reduceIte, ↓reduceDIte, reduceCtorEq, Nat.reduceAdd, Nat.reduceMul, Nat.reduceSub, Nat.reduceLT, Nat.reduceLeDiff, Nat.reduceEqDiff, Nat.reduceBEq, Int.reduceToNat, Int.reduceLE, Int.reduceLT, Int.reduceEq, Int.reduceNe, Int.reduceNeg]
         (repeat' apply And.intro) <;> try first | ((with_reducible refine hK' _ ?_ ?_ ?_); rotate_left; (simp only [go_sem, pr, keepSl, ↓reduceIte, Nat.reduceEqDiff]; try rfl); clear hK' K') | (clear hK' K'; first | omega | (with_reducible refine drawOk_k ?_; kernel_rfl) | assumption | refine Eq.refl _ | exact fun h => ⟨h, fun k => ⟨h, k⟩⟩ | (intro _; (repeat' apply And.intro) <;> first | omega | assumption) | skip))
      | with_reducible first | refine W_skip ?_ | refine W_exit ?_ | refine W_ret ?_ | refine W_block ?_ | refine thenG_n ?_ | refine thenG_x ?_ | refine thenG_r ?_ | refine blockG_n ?_ | refine blockG_r ?_ | refine blockG_x ?_ | refine blockG_o (by decide) ?_
    refine ⟨by (simp only [go_sem, ↓reduceIte, reduceCtorEq, Nat.reduceAdd, Nat.reduceLT, Nat.reduceLeDiff, Nat.reduceEqDiff]) <;> trivial, [], ?_⟩
    all_goals try simp only [go_sem, ↓reduceIte, reduceCtorEq, Nat.reduceAdd, Nat.reduceLT, Nat.reduceLeDiff, Nat.reduceEqDiff, Int.reduceEq, TC.val.injEq, Value.bool.injEq, Value.int.injEq, Value.string.injEq, TV.one.injEq]
    all_goals (repeat' apply And.intro) <;> try first | rfl | trivial | omega | (rw [wrap_id] <;> omega)
    rw [wrap_id _ (by omega) (by omega)]
    unfold sector
    by_cases h : 0 ≤ s ∧ s ≤ 1
    · rw [if_pos h]; simp [h.1, h.2]
    · rw [if_neg h]
      by_cases h1 : 0 ≤ s
      · have : ¬ s ≤ 1 := fun h2 => h ⟨h1, h2⟩
        simp [this]
      · simp [h1]
  · simp [no, ifp] at hp

/-- A write that does not fit a disk of n sectors a side. -/
def badLate (n : Nat) (w : Late) : Bool := !(sector n w.side w.at_) || long w.text
@[go_sem] def ctBadLate : Ct := ⟨true, [], fun args os => match args, os with
  | [.agg [.val (.int .i64 s), .val (.int .i64 k), .val (.string t)], .one (.ptr 0 0)], [.cells [.isl .str a, .isl .str b, .isl .late l]] => ifp (a.length ≤ 4000000) (vb (badLate a.length ⟨s, k, t⟩))
  | _, _ => no⟩
theorem s_badLate_e : EnterOk Try.prog 75 := ⟨_, Try.func75, rfl, by decide⟩
@[go_sem] def s_badLate_lv : List (List Nat) := [[1, 2], [3]]
@[go_sem] noncomputable def s_badLate_K : Known := ((Known.nil).cons 45 ctIsSector s_isSector s_isSector_e).cons 73 ctIsLong s_isLong s_isLong_e
set_option maxHeartbeats 8000000 in
theorem s_badLate : Sound Try.prog 75 ctBadLate := by
  refine sound_intro (E := ⟨ti, s_badLate_K.Γ, []⟩) (s_badLate_K.env []) Try.func75 Try.ntmps75 rfl (rs := [.tmp 3]) rfl ?_
  intro args os hp
  unfold ctBadLate at hp ⊢
  dsimp only at hp ⊢
  split at hp
  · rename_i s k t a b l
    refine ⟨by simp, fun φ0 w0 => ?_⟩
    have hlen : a.length ≤ 4000000 := hp
    clear hp
    repeat' first
      | refine W_seq ?_
      | (refine W_reg (s_badLate_K.env []) s_badLate_lv fun K' hK' => ?_
         simp only [go_sem, ↓reduceIte, ↓reduceDIte, reduceCtorEq, Nat.reduceAdd, Nat.reduceMul, Nat.reduceSub, Nat.reduceLT, Nat.reduceLeDiff, Nat.reduceEqDiff, Nat.reduceBEq, Int.reduceToNat, Int.reduceLE, Int.reduceLT, Int.reduceEq, Int.reduceNe, Int.reduceNeg]
         (repeat' apply And.intro) <;> try first | ((with_reducible refine hK' _ ?_ ?_ ?_); rotate_left; (simp only [go_sem, pr, keepSl, ↓reduceIte, Nat.reduceEqDiff]; try rfl); clear hK' K') | (clear hK' K'; first | omega | (with_reducible refine drawOk_k ?_; kernel_rfl) | assumption | refine Eq.refl _ | exact fun h => ⟨h, fun k => ⟨h, k⟩⟩ | (intro _; (repeat' apply And.intro) <;> first | omega | assumption) | skip))
      | with_reducible first | refine W_skip ?_ | refine W_exit ?_ | refine W_ret ?_ | refine W_block ?_ | refine thenG_n ?_ | refine thenG_x ?_ | refine thenG_r ?_ | refine blockG_n ?_ | refine blockG_r ?_ | refine blockG_x ?_ | refine blockG_o (by decide) ?_
    refine ⟨by (simp only [go_sem, ↓reduceIte, reduceCtorEq, Nat.reduceAdd, Nat.reduceLT, Nat.reduceLeDiff, Nat.reduceEqDiff]) <;> trivial, [some 0], ?_⟩
    all_goals try simp only [go_sem, ↓reduceIte, reduceCtorEq, Nat.reduceAdd, Nat.reduceLT, Nat.reduceLeDiff, Nat.reduceEqDiff, Int.reduceEq, TC.val.injEq, Value.bool.injEq, Value.int.injEq, Value.string.injEq, TV.one.injEq]
    all_goals (repeat' apply And.intro) <;> try first | rfl | trivial | omega | (rw [wrap_id] <;> omega)
    unfold badLate
    cases sector a.length s k <;> simp
  · simp [no, ifp] at hp

@[go_sem] def ctIndexLate : Ct := ⟨true, [[some .late]], fun args os => match args, os with
  | [.one (.isl .late xs), .one (.fn 75 [(0, 0)])], [.cells [.isl .str a, .isl .str b, .isl .late l]] => ifp (xs.length ≤ 4000000 ∧ a.length ≤ 4000000) (vi (firstAt (badLate a.length) xs))
  | _, _ => no⟩
@[go_sem] def sgIndexLate (a b : List ByteArray) (l : List Late) (xs : List Late) (i : Nat) : Sg := ⟨[(8, vi i), (7, vi xs.length), (0, .one (.isl .late xs)), (1, .one (.fn 75 [(0, 0)]))], [some (.cells [.isl .str a, .isl .str b, .isl .late l])], []⟩
theorem s_indexLate_e : EnterOk Try.prog 109 := ⟨_, Try.func109, rfl, by decide⟩
@[go_sem] def s_indexLate_lv : List (List Nat) := [[0, 1], [0, 1, 7, 8], [0, 1, 7, 8, 9], [0, 1, 5, 7, 8], [0, 1, 5, 7, 8, 16], [4], [0, 1, 7, 8], [4]]
@[go_sem] noncomputable def s_indexLate_K : Known := (Known.nil).cons 75 ctBadLate s_badLate s_badLate_e
set_option maxHeartbeats 8000000 in
theorem s_indexLate : Sound Try.prog 109 ctIndexLate := by
  refine sound_intro (E := ⟨ti, s_indexLate_K.Γ, []⟩) (s_indexLate_K.env []) Try.func109 Try.ntmps109 rfl (rs := [.tmp 4]) rfl ?_
  intro args os hp
  unfold ctIndexLate at hp ⊢
  dsimp only at hp ⊢
  split at hp
  · rename_i xs a b l
    refine ⟨by simp, fun φ0 w0 => ?_⟩
    obtain ⟨hlen, hla⟩ : xs.length ≤ 4000000 ∧ a.length ≤ 4000000 := hp
    repeat' first
      | refine W_seq ?_
      | (refine W_reg (s_indexLate_K.env []) s_indexLate_lv fun K' hK' => ?_
         simp only [go_sem, ↓reduceIte, ↓reduceDIte, reduceCtorEq, Nat.reduceAdd, Nat.reduceMul, Nat.reduceSub, Nat.reduceLT, Nat.reduceLeDiff, Nat.reduceEqDiff, Nat.reduceBEq, Int.reduceToNat, Int.reduceLE, Int.reduceLT, Int.reduceEq, Int.reduceNe, Int.reduceNeg]
         (repeat' apply And.intro) <;> try first | ((with_reducible refine hK' _ ?_ ?_ ?_); rotate_left; (simp only [go_sem, pr, keepSl, ↓reduceIte, Nat.reduceEqDiff]; try rfl); clear hK' K') | (clear hK' K'; first | omega | (with_reducible refine drawOk_k ?_; kernel_rfl) | assumption | refine Eq.refl _ | exact fun h => ⟨h, fun k => ⟨h, k⟩⟩ | (intro _; (repeat' apply And.intro) <;> first | omega | assumption) | skip))
      | with_reducible first | refine W_skip ?_ | refine W_exit ?_ | refine W_ret ?_ | refine W_block ?_ | refine thenG_n ?_ | refine thenG_x ?_ | refine thenG_r ?_ | refine blockG_n ?_ | refine blockG_r ?_ | refine blockG_x ?_ | refine blockG_o (by decide) ?_
    refine W_le (σ' := sgIndexLate a b l xs 0) [some 0] (by
      simp only [go_sem, ↓reduceIte, reduceCtorEq, Nat.reduceAdd, Nat.reduceLT, Nat.reduceLeDiff, Nat.reduceEqDiff, Int.reduceEq, TC.val.injEq, Value.bool.injEq, Value.int.injEq, Value.string.injEq, TV.one.injEq]
      all_goals (repeat' apply And.intro) <;> try first | rfl | trivial | omega | (rw [wrap_id] <;> omega)
      ) ?_
    refine W_loop (fun n σ => ∃ i : Nat, i ≤ xs.length ∧ n = xs.length - i ∧ (∀ j, j < i → badLate a.length (xs.getD j ET.late.dflt) = false) ∧ σ = sgIndexLate a b l xs i) xs.length ⟨0, by omega, by omega, by omega, rfl⟩ ?_
    rintro n σ ⟨i, hi, rfl, hbef, rfl⟩
    unfold sgIndexLate
    repeat' first
      | refine W_seq ?_
      | (refine W_reg (s_indexLate_K.env []) s_indexLate_lv fun K' hK' => ?_
         simp only [go_sem, ↓reduceIte, ↓reduceDIte, reduceCtorEq, Nat.reduceAdd, Nat.reduceMul, Nat.reduceSub, Nat.reduceLT, Nat.reduceLeDiff, Nat.reduceEqDiff, Nat.reduceBEq, Int.reduceToNat, Int.reduceLE, Int.reduceLT, Int.reduceEq, Int.reduceNe, Int.reduceNeg]
         (repeat' apply And.intro) <;> try first | ((with_reducible refine hK' _ ?_ ?_ ?_); rotate_left; (simp only [go_sem, pr, keepSl, ↓reduceIte, Nat.reduceEqDiff]; try rfl); clear hK' K') | (clear hK' K'; first | omega | (with_reducible refine drawOk_k ?_; kernel_rfl) | assumption | refine Eq.refl _ | exact fun h => ⟨h, fun k => ⟨h, k⟩⟩ | (intro _; (repeat' apply And.intro) <;> first | omega | assumption) | skip))
      | with_reducible first | refine W_skip ?_ | refine W_exit ?_ | refine W_ret ?_ | refine W_block ?_ | refine thenG_n ?_ | refine thenG_x ?_ | refine thenG_r ?_ | refine blockG_n ?_ | refine blockG_r ?_ | refine blockG_x ?_ | refine blockG_o (by decide) ?_
    refine W_cond _ (by exact rfl) (by exact trivial) ?_ ?_ <;> (try simp only [Bool.if_true_left, Bool.if_false_right, Bool.if_true_right, Bool.if_false_left, Bool.decide_eq_true, Bool.or_assoc, Bool.and_assoc, Bool.and_true, Bool.or_false, Bool.true_and, Bool.false_or, decide_eq_true_eq, decide_eq_false_iff_not, not_and, not_or, Classical.not_not, Bool.and_eq_true, Bool.or_eq_true, Bool.not_eq_true', Bool.not_eq_false', Bool.or_eq_false_iff, Bool.and_eq_false_iff, bne_iff_ne, ne_eq, beq_iff_eq, bne_eq_false_iff_eq, same_true, same_false, Int.ofNat_inj]) <;> intro hlt
    · repeat' first
        | refine W_seq ?_
        | (refine W_reg (s_indexLate_K.env []) s_indexLate_lv fun K' hK' => ?_
           simp only [go_sem, ↓reduceIte, ↓reduceDIte, reduceCtorEq, Nat.reduceAdd, Nat.reduceMul, Nat.reduceSub, Nat.reduceLT, Nat.reduceLeDiff, Nat.reduceEqDiff, Nat.reduceBEq, Int.reduceToNat, Int.reduceLE, Int.reduceLT, Int.reduceEq, Int.reduceNe, Int.reduceNeg]
           (repeat' apply And.intro) <;> try first | ((with_reducible refine hK' _ ?_ ?_ ?_); rotate_left; (simp only [go_sem, pr, keepSl, ↓reduceIte, Nat.reduceEqDiff]; try rfl); clear hK' K') | (clear hK' K'; first | omega | (with_reducible refine drawOk_k ?_; kernel_rfl) | assumption | refine Eq.refl _ | exact fun h => ⟨h, fun k => ⟨h, k⟩⟩ | (intro _; (repeat' apply And.intro) <;> first | omega | assumption) | skip))
        | with_reducible first | refine W_skip ?_ | refine W_exit ?_ | refine W_ret ?_ | refine W_block ?_ | refine thenG_n ?_ | refine thenG_x ?_ | refine thenG_r ?_ | refine blockG_n ?_ | refine blockG_r ?_ | refine blockG_x ?_ | refine blockG_o (by decide) ?_
      refine W_cond _ (by exact rfl) (by exact trivial) ?_ ?_ <;> (try simp only [Bool.if_true_left, Bool.if_false_right, Bool.if_true_right, Bool.if_false_left, Bool.decide_eq_true, Bool.or_assoc, Bool.and_assoc, Bool.and_true, Bool.or_false, Bool.true_and, Bool.false_or, decide_eq_true_eq, decide_eq_false_iff_not, not_and, not_or, Classical.not_not, Bool.and_eq_true, Bool.or_eq_true, Bool.not_eq_true', Bool.not_eq_false', Bool.or_eq_false_iff, Bool.and_eq_false_iff, bne_iff_ne, ne_eq, beq_iff_eq, bne_eq_false_iff_eq, same_true, same_false, Int.ofNat_inj]) <;> intro hl
      · repeat' first
          | refine W_seq ?_
          | (refine W_reg (s_indexLate_K.env []) s_indexLate_lv fun K' hK' => ?_
             simp only [go_sem, ↓reduceIte, ↓reduceDIte, reduceCtorEq, Nat.reduceAdd, Nat.reduceMul, Nat.reduceSub, Nat.reduceLT, Nat.reduceLeDiff, Nat.reduceEqDiff, Nat.reduceBEq, Int.reduceToNat, Int.reduceLE, Int.reduceLT, Int.reduceEq, Int.reduceNe, Int.reduceNeg]
             (repeat' apply And.intro) <;> try first | ((with_reducible refine hK' _ ?_ ?_ ?_); rotate_left; (simp only [go_sem, pr, keepSl, ↓reduceIte, Nat.reduceEqDiff]; try rfl); clear hK' K') | (clear hK' K'; first | omega | (with_reducible refine drawOk_k ?_; kernel_rfl) | assumption | refine Eq.refl _ | exact fun h => ⟨h, fun k => ⟨h, k⟩⟩ | (intro _; (repeat' apply And.intro) <;> first | omega | assumption) | skip))
          | with_reducible first | refine W_skip ?_ | refine W_exit ?_ | refine W_ret ?_ | refine W_block ?_ | refine thenG_n ?_ | refine thenG_x ?_ | refine thenG_r ?_ | refine blockG_n ?_ | refine blockG_r ?_ | refine blockG_x ?_ | refine blockG_o (by decide) ?_
        refine ⟨by (simp only [go_sem, ↓reduceIte, reduceCtorEq, Nat.reduceAdd, Nat.reduceLT, Nat.reduceLeDiff, Nat.reduceEqDiff]) <;> trivial, [some 0], ?_⟩
        all_goals try simp only [go_sem, ↓reduceIte, reduceCtorEq, Nat.reduceAdd, Nat.reduceLT, Nat.reduceLeDiff, Nat.reduceEqDiff, Int.reduceEq, TC.val.injEq, Value.bool.injEq, Value.int.injEq, Value.string.injEq, TV.one.injEq]
        all_goals (repeat' apply And.intro) <;> try first | rfl | trivial | omega | (rw [wrap_id] <;> omega)
        exact (firstAt_some (by omega) hbef hl).symm
      · repeat' first
          | refine W_seq ?_
          | (refine W_reg (s_indexLate_K.env []) s_indexLate_lv fun K' hK' => ?_
             simp only [go_sem, ↓reduceIte, ↓reduceDIte, reduceCtorEq, Nat.reduceAdd, Nat.reduceMul, Nat.reduceSub, Nat.reduceLT, Nat.reduceLeDiff, Nat.reduceEqDiff, Nat.reduceBEq, Int.reduceToNat, Int.reduceLE, Int.reduceLT, Int.reduceEq, Int.reduceNe, Int.reduceNeg]
             (repeat' apply And.intro) <;> try first | ((with_reducible refine hK' _ ?_ ?_ ?_); rotate_left; (simp only [go_sem, pr, keepSl, ↓reduceIte, Nat.reduceEqDiff]; try rfl); clear hK' K') | (clear hK' K'; first | omega | (with_reducible refine drawOk_k ?_; kernel_rfl) | assumption | refine Eq.refl _ | exact fun h => ⟨h, fun k => ⟨h, k⟩⟩ | (intro _; (repeat' apply And.intro) <;> first | omega | assumption) | skip))
          | with_reducible first | refine W_skip ?_ | refine W_exit ?_ | refine W_ret ?_ | refine W_block ?_ | refine thenG_n ?_ | refine thenG_x ?_ | refine thenG_r ?_ | refine blockG_n ?_ | refine blockG_r ?_ | refine blockG_x ?_ | refine blockG_o (by decide) ?_
        refine ⟨xs.length - (i + 1), [some 0], sgIndexLate a b l xs (i + 1), by omega, ?_, i + 1, by omega, rfl, fun j hj => ?_, rfl⟩
        · simp only [go_sem, ↓reduceIte, reduceCtorEq, Nat.reduceAdd, Nat.reduceLT, Nat.reduceLeDiff, Nat.reduceEqDiff, Int.reduceEq, TC.val.injEq, Value.bool.injEq, Value.int.injEq, Value.string.injEq, TV.one.injEq]
          all_goals (repeat' apply And.intro) <;> try first | rfl | trivial | omega | (rw [wrap_id] <;> omega)
        · rcases Nat.lt_succ_iff_lt_or_eq.1 hj with h | rfl
          · exact hbef j h
          · exact hl
    · repeat' first
        | refine W_seq ?_
        | (refine W_reg (s_indexLate_K.env []) s_indexLate_lv fun K' hK' => ?_
           simp only [go_sem, ↓reduceIte, ↓reduceDIte, reduceCtorEq, Nat.reduceAdd, Nat.reduceMul, Nat.reduceSub, Nat.reduceLT, Nat.reduceLeDiff, Nat.reduceEqDiff, Nat.reduceBEq, Int.reduceToNat, Int.reduceLE, Int.reduceLT, Int.reduceEq, Int.reduceNe, Int.reduceNeg]
           (repeat' apply And.intro) <;> try first | ((with_reducible refine hK' _ ?_ ?_ ?_); rotate_left; (simp only [go_sem, pr, keepSl, ↓reduceIte, Nat.reduceEqDiff]; try rfl); clear hK' K') | (clear hK' K'; first | omega | (with_reducible refine drawOk_k ?_; kernel_rfl) | assumption | refine Eq.refl _ | exact fun h => ⟨h, fun k => ⟨h, k⟩⟩ | (intro _; (repeat' apply And.intro) <;> first | omega | assumption) | skip))
        | with_reducible first | refine W_skip ?_ | refine W_exit ?_ | refine W_ret ?_ | refine W_block ?_ | refine thenG_n ?_ | refine thenG_x ?_ | refine thenG_r ?_ | refine blockG_n ?_ | refine blockG_r ?_ | refine blockG_x ?_ | refine blockG_o (by decide) ?_
      refine ⟨by (simp only [go_sem, ↓reduceIte, reduceCtorEq, Nat.reduceAdd, Nat.reduceLT, Nat.reduceLeDiff, Nat.reduceEqDiff]) <;> trivial, [some 0], ?_⟩
      all_goals try simp only [go_sem, ↓reduceIte, reduceCtorEq, Nat.reduceAdd, Nat.reduceLT, Nat.reduceLeDiff, Nat.reduceEqDiff, Int.reduceEq, TC.val.injEq, Value.bool.injEq, Value.int.injEq, Value.string.injEq, TV.one.injEq]
      all_goals (repeat' apply And.intro) <;> try first | rfl | trivial | omega | (rw [wrap_id] <;> omega)
      exact (firstAt_none fun j hj => hbef j (by omega)).symm
  · simp [no, ifp] at hp

@[go_sem] def ctHasLate : Ct := ⟨true, [[some .late]], fun args os => match args, os with
  | [.one (.isl .late xs), .one (.fn 75 [(0, 0)])], [.cells [.isl .str a, .isl .str b, .isl .late l]] => ifp (xs.length ≤ 4000000 ∧ a.length ≤ 4000000) (vb (xs.any (badLate a.length)))
  | _, _ => no⟩
theorem s_hasLate_e : EnterOk Try.prog 74 := ⟨_, Try.func74, rfl, by decide⟩
@[go_sem] def s_hasLate_lv : List (List Nat) := [[0, 1], [4]]
@[go_sem] noncomputable def s_hasLate_K : Known := (Known.nil).cons 109 ctIndexLate s_indexLate s_indexLate_e
set_option maxHeartbeats 8000000 in
theorem s_hasLate : Sound Try.prog 74 ctHasLate := by
  refine sound_intro (E := ⟨ti, s_hasLate_K.Γ, []⟩) (s_hasLate_K.env []) Try.func74 Try.ntmps74 rfl (rs := [.tmp 4]) rfl ?_
  intro args os hp
  unfold ctHasLate at hp ⊢
  dsimp only at hp ⊢
  split at hp
  · rename_i xs a b l
    refine ⟨by simp, fun φ0 w0 => ?_⟩
    obtain ⟨hlen, hla⟩ : xs.length ≤ 4000000 ∧ a.length ≤ 4000000 := hp
    repeat' first
      | refine W_seq ?_
      | (refine W_reg (s_hasLate_K.env []) s_hasLate_lv fun K' hK' => ?_
         simp only [go_sem, ↓reduceIte, ↓reduceDIte, reduceCtorEq, Nat.reduceAdd, Nat.reduceMul, Nat.reduceSub, Nat.reduceLT, Nat.reduceLeDiff, Nat.reduceEqDiff, Nat.reduceBEq, Int.reduceToNat, Int.reduceLE, Int.reduceLT, Int.reduceEq, Int.reduceNe, Int.reduceNeg]
         (repeat' apply And.intro) <;> try first | ((with_reducible refine hK' _ ?_ ?_ ?_); rotate_left; (simp only [go_sem, pr, keepSl, ↓reduceIte, Nat.reduceEqDiff]; try rfl); clear hK' K') | (clear hK' K'; first | omega | (with_reducible refine drawOk_k ?_; kernel_rfl) | assumption | refine Eq.refl _ | exact fun h => ⟨h, fun k => ⟨h, k⟩⟩ | (intro _; (repeat' apply And.intro) <;> first | omega | assumption) | skip))
      | with_reducible first | refine W_skip ?_ | refine W_exit ?_ | refine W_ret ?_ | refine W_block ?_ | refine thenG_n ?_ | refine thenG_x ?_ | refine thenG_r ?_ | refine blockG_n ?_ | refine blockG_r ?_ | refine blockG_x ?_ | refine blockG_o (by decide) ?_
    refine ⟨by (simp only [go_sem, ↓reduceIte, reduceCtorEq, Nat.reduceAdd, Nat.reduceLT, Nat.reduceLeDiff, Nat.reduceEqDiff]) <;> trivial, [some 0], ?_⟩
    all_goals try simp only [go_sem, ↓reduceIte, reduceCtorEq, Nat.reduceAdd, Nat.reduceLT, Nat.reduceLeDiff, Nat.reduceEqDiff, Int.reduceEq, TC.val.injEq, Value.bool.injEq, Value.int.injEq, Value.string.injEq, TV.one.injEq]
    all_goals (repeat' apply And.intro) <;> try first | rfl | trivial | omega | (rw [wrap_id] <;> omega)
    exact firstAt_ge _ _
  · simp [no, ifp] at hp

@[go_sem] def ctCloneLate : Ct := ⟨false, [[some .late]], fun args os => match args, os with
  | [.one (.isl .late xs)], [] => ⟨xs.length ≤ 4000000, .one (.osl .late 0 0 xs.length), [], [.arr .late xs]⟩
  | _, _ => no⟩
theorem s_cloneLate_e : EnterOk Try.prog 77 := ⟨_, Try.func77, rfl, by decide⟩
@[go_sem] def s_cloneLate_lv : List (List Nat) := [[0], [0, 4], [2], [2]]
@[go_sem] noncomputable def s_cloneLate_K : Known := Known.nil
set_option maxHeartbeats 8000000 in
theorem s_cloneLate : Sound Try.prog 77 ctCloneLate := by
  refine sound_intro (E := ⟨ti, s_cloneLate_K.Γ, []⟩) (s_cloneLate_K.env []) Try.func77 Try.ntmps77 rfl (rs := [.tmp 2]) rfl ?_
  intro args os hp
  unfold ctCloneLate at hp ⊢
  dsimp only at hp ⊢
  split at hp
  · rename_i xs
    refine ⟨by simp, fun φ0 w0 => ?_⟩
    have hlen : xs.length ≤ 4000000 := hp
    clear hp
    repeat' first
      | refine W_seq ?_
      | (refine W_reg (s_cloneLate_K.env []) s_cloneLate_lv fun K' hK' => ?_
         simp only [go_sem, ↓reduceIte, ↓reduceDIte, reduceCtorEq, Nat.reduceAdd, Nat.reduceMul, Nat.reduceSub, Nat.reduceLT, Nat.reduceLeDiff, Nat.reduceEqDiff, Nat.reduceBEq, Int.reduceToNat, Int.reduceLE, Int.reduceLT, Int.reduceEq, Int.reduceNe, Int.reduceNeg]
         (repeat' apply And.intro) <;> try first | ((with_reducible refine hK' _ ?_ ?_ ?_); rotate_left; (simp only [go_sem, pr, keepSl, ↓reduceIte, Nat.reduceEqDiff]; try rfl); clear hK' K') | (clear hK' K'; first | omega | (with_reducible refine drawOk_k ?_; kernel_rfl) | assumption | refine Eq.refl _ | exact fun h => ⟨h, fun k => ⟨h, k⟩⟩ | (intro _; (repeat' apply And.intro) <;> first | omega | assumption) | skip))
      | with_reducible first | refine W_skip ?_ | refine W_exit ?_ | refine W_ret ?_ | refine W_block ?_ | refine thenG_n ?_ | refine thenG_x ?_ | refine thenG_r ?_ | refine blockG_n ?_ | refine blockG_r ?_ | refine blockG_x ?_ | refine blockG_o (by decide) ?_
    refine W_cond_nb _ _ (by exact rfl) (by exact trivial) ?_ ?_ <;> intro hx
    · repeat' first
        | refine W_seq ?_
        | (refine W_reg (s_cloneLate_K.env []) s_cloneLate_lv fun K' hK' => ?_
           simp only [go_sem, ↓reduceIte, ↓reduceDIte, reduceCtorEq, Nat.reduceAdd, Nat.reduceMul, Nat.reduceSub, Nat.reduceLT, Nat.reduceLeDiff, Nat.reduceEqDiff, Nat.reduceBEq, Int.reduceToNat, Int.reduceLE, Int.reduceLT, Int.reduceEq, Int.reduceNe, Int.reduceNeg]
           (repeat' apply And.intro) <;> try first | ((with_reducible refine hK' _ ?_ ?_ ?_); rotate_left; (simp only [go_sem, pr, keepSl, ↓reduceIte, Nat.reduceEqDiff]; try rfl); clear hK' K') | (clear hK' K'; first | omega | (with_reducible refine drawOk_k ?_; kernel_rfl) | assumption | refine Eq.refl _ | exact fun h => ⟨h, fun k => ⟨h, k⟩⟩ | (intro _; (repeat' apply And.intro) <;> first | omega | assumption) | skip))
        | with_reducible first | refine W_skip ?_ | refine W_exit ?_ | refine W_ret ?_ | refine W_block ?_ | refine thenG_n ?_ | refine thenG_x ?_ | refine thenG_r ?_ | refine blockG_n ?_ | refine blockG_r ?_ | refine blockG_x ?_ | refine blockG_o (by decide) ?_
      subst hx
      refine ⟨by (simp only [go_sem, ↓reduceIte, reduceCtorEq, Nat.reduceAdd, Nat.reduceLT, Nat.reduceLeDiff, Nat.reduceEqDiff]) <;> trivial, [none], ?_⟩
      all_goals try simp only [go_sem, ↓reduceIte, reduceCtorEq, Nat.reduceAdd, Nat.reduceLT, Nat.reduceLeDiff, Nat.reduceEqDiff, Int.reduceEq, TC.val.injEq, Value.bool.injEq, Value.int.injEq, Value.string.injEq, TV.one.injEq]
      all_goals (repeat' apply And.intro) <;> try first | rfl | trivial | omega | (rw [wrap_id] <;> omega)
    · repeat' first
        | refine W_seq ?_
        | (refine W_reg (s_cloneLate_K.env []) s_cloneLate_lv fun K' hK' => ?_
           simp only [go_sem, ↓reduceIte, ↓reduceDIte, reduceCtorEq, Nat.reduceAdd, Nat.reduceMul, Nat.reduceSub, Nat.reduceLT, Nat.reduceLeDiff, Nat.reduceEqDiff, Nat.reduceBEq, Int.reduceToNat, Int.reduceLE, Int.reduceLT, Int.reduceEq, Int.reduceNe, Int.reduceNeg]
           (repeat' apply And.intro) <;> try first | ((with_reducible refine hK' _ ?_ ?_ ?_); rotate_left; (simp only [go_sem, pr, keepSl, ↓reduceIte, Nat.reduceEqDiff]; try rfl); clear hK' K') | (clear hK' K'; first | omega | (with_reducible refine drawOk_k ?_; kernel_rfl) | assumption | refine Eq.refl _ | exact fun h => ⟨h, fun k => ⟨h, k⟩⟩ | (intro _; (repeat' apply And.intro) <;> first | omega | assumption) | skip))
        | with_reducible first | refine W_skip ?_ | refine W_exit ?_ | refine W_ret ?_ | refine W_block ?_ | refine thenG_n ?_ | refine thenG_x ?_ | refine thenG_r ?_ | refine blockG_n ?_ | refine blockG_r ?_ | refine blockG_x ?_ | refine blockG_o (by decide) ?_
      refine ⟨by (simp only [go_sem, ↓reduceIte, reduceCtorEq, Nat.reduceAdd, Nat.reduceLT, Nat.reduceLeDiff, Nat.reduceEqDiff]) <;> trivial, [some 1], ?_⟩
      all_goals try simp only [go_sem, ↓reduceIte, reduceCtorEq, Nat.reduceAdd, Nat.reduceLT, Nat.reduceLeDiff, Nat.reduceEqDiff, Int.reduceEq, TC.val.injEq, Value.bool.injEq, Value.int.injEq, Value.string.injEq, TV.one.injEq]
      all_goals (repeat' apply And.intro) <;> try first | rfl | trivial | omega | (rw [wrap_id] <;> omega)
  · simp [no, ifp] at hp

/-- A disk. -/
structure Dk where
  a : List ByteArray
  b : List ByteArray
  l : List Late
def Dk.small (d : Dk) : Prop := d.a.length ≤ 4000000 ∧ d.b.length ≤ 4000000 ∧ d.l.length ≤ 4000000
def Dk.ok (d : Dk) : Bool :=
  (decide (1 ≤ (d.a.length : Int)) && decide ((d.a.length : Int) ≤ 120)) && decide (d.b.length = d.a.length) && !d.a.any long && !d.b.any long && decide (d.l.length ≤ 600) && !d.l.any (badLate d.a.length)
theorem diskOk_aux (a b : List ByteArray) (l : List Late) :
    ((if (if (if (!(decide (1 ≤ (a.length : Int)) && decide ((a.length : Int) ≤ 120))) = true then true else (b.length : Int) != (a.length : Int)) = true then true else a.any long) = true then true else b.any long) = true → (Dk.mk a b l).ok = false) ∧
    ((if (if (if (!(decide (1 ≤ (a.length : Int)) && decide ((a.length : Int) ≤ 120))) = true then true else (b.length : Int) != (a.length : Int)) = true then true else a.any long) = true then true else b.any long) = false →
      (if (l.length : Int) ≤ 600 then !l.any (badLate a.length) else false) = (Dk.mk a b l).ok) := by
  unfold Dk.ok
  have hl : ((l.length : Int) ≤ 600) = (l.length ≤ 600) := by apply propext; omega
  have hb : ((b.length : Int) != (a.length : Int)) = !decide (b.length = a.length) := by
    rw [Bool.eq_iff_iff]; simp; omega
  rw [hb]
  simp only [hl]
  generalize a.any long = p
  generalize b.any long = q
  generalize l.any (badLate a.length) = r
  by_cases e1 : 1 ≤ (a.length : Int) <;> by_cases e2 : (a.length : Int) ≤ 120 <;> by_cases e3 : b.length = a.length <;> by_cases e4 : l.length ≤ 600 <;> cases p <;> cases q <;> cases r <;> simp [e1, e2, e3, e4]
@[go_sem] def ctDiskOk : Ct := ⟨false, [[some .str, some .str, some .late]], fun args os => match args, os with
  | [.agg [.isl .str a, .isl .str b, .isl .late l]], [] => ifp ((Dk.mk a b l).small) (vb (Dk.mk a b l).ok)
  | _, _ => no⟩
theorem s_diskOk_e : EnterOk Try.prog 43 := ⟨_, Try.func43, rfl, by decide⟩
@[go_sem] def s_diskOk_lv : List (List Nat) := [[1], [1, 3], [1, 30], [2], [2]]
@[go_sem] noncomputable def s_diskOk_K : Known := ((((Known.nil).cons 46 ctWithin s_within s_within_e).cons 72 ctHasLong s_hasLong s_hasLong_e).cons 73 ctIsLong s_isLong s_isLong_e).cons 74 ctHasLate s_hasLate s_hasLate_e
set_option maxHeartbeats 8000000 in
theorem s_diskOk : Sound Try.prog 43 ctDiskOk := by
  refine sound_intro (E := ⟨ti, s_diskOk_K.Γ, []⟩) (s_diskOk_K.env []) Try.func43 Try.ntmps43 rfl (rs := [.tmp 2]) rfl ?_
  intro args os hp
  unfold ctDiskOk at hp ⊢
  dsimp only at hp ⊢
  split at hp
  · rename_i a b l
    refine ⟨by simp, fun φ0 w0 => ?_⟩
    obtain ⟨h1, h2, h3⟩ : a.length ≤ 4000000 ∧ b.length ≤ 4000000 ∧ l.length ≤ 4000000 := hp
    repeat' first
      | refine W_seq ?_
      | (refine W_reg (s_diskOk_K.env []) s_diskOk_lv fun K' hK' => ?_
         simp only [go_sem, ↓reduceIte, ↓reduceDIte, reduceCtorEq, Nat.reduceAdd, Nat.reduceMul, Nat.reduceSub, Nat.reduceLT, Nat.reduceLeDiff, Nat.reduceEqDiff, Nat.reduceBEq, Int.reduceToNat, Int.reduceLE, Int.reduceLT, Int.reduceEq, Int.reduceNe, Int.reduceNeg]
         (repeat' apply And.intro) <;> try first | ((with_reducible refine hK' _ ?_ ?_ ?_); rotate_left; (simp only [go_sem, pr, keepSl, ↓reduceIte, Nat.reduceEqDiff]; try rfl); clear hK' K') | (clear hK' K'; first | omega | (with_reducible refine drawOk_k ?_; kernel_rfl) | assumption | refine Eq.refl _ | exact fun h => ⟨h, fun k => ⟨h, k⟩⟩ | (intro _; (repeat' apply And.intro) <;> first | omega | assumption) | skip))
      | with_reducible first | refine W_skip ?_ | refine W_exit ?_ | refine W_ret ?_ | refine W_block ?_ | refine thenG_n ?_ | refine thenG_x ?_ | refine thenG_r ?_ | refine blockG_n ?_ | refine blockG_r ?_ | refine blockG_x ?_ | refine blockG_o (by decide) ?_
    refine W_cond _ (by exact rfl) (by exact trivial) ?_ ?_ <;> intro hc
    · repeat' first
        | refine W_seq ?_
        | (refine W_reg (s_diskOk_K.env []) s_diskOk_lv fun K' hK' => ?_
           simp only [go_sem, ↓reduceIte, ↓reduceDIte, reduceCtorEq, Nat.reduceAdd, Nat.reduceMul, Nat.reduceSub, Nat.reduceLT, Nat.reduceLeDiff, Nat.reduceEqDiff, Nat.reduceBEq, Int.reduceToNat, Int.reduceLE, Int.reduceLT, Int.reduceEq, Int.reduceNe, Int.reduceNeg]
           (repeat' apply And.intro) <;> try first | ((with_reducible refine hK' _ ?_ ?_ ?_); rotate_left; (simp only [go_sem, pr, keepSl, ↓reduceIte, Nat.reduceEqDiff]; try rfl); clear hK' K') | (clear hK' K'; first | omega | (with_reducible refine drawOk_k ?_; kernel_rfl) | assumption | refine Eq.refl _ | exact fun h => ⟨h, fun k => ⟨h, k⟩⟩ | (intro _; (repeat' apply And.intro) <;> first | omega | assumption) | skip))
        | with_reducible first | refine W_skip ?_ | refine W_exit ?_ | refine W_ret ?_ | refine W_block ?_ | refine thenG_n ?_ | refine thenG_x ?_ | refine thenG_r ?_ | refine blockG_n ?_ | refine blockG_r ?_ | refine blockG_x ?_ | refine blockG_o (by decide) ?_
      refine ⟨by (simp only [go_sem, ↓reduceIte, reduceCtorEq, Nat.reduceAdd, Nat.reduceLT, Nat.reduceLeDiff, Nat.reduceEqDiff]) <;> trivial, [], ?_⟩
      all_goals try simp only [go_sem, ↓reduceIte, reduceCtorEq, Nat.reduceAdd, Nat.reduceLT, Nat.reduceLeDiff, Nat.reduceEqDiff, Int.reduceEq, TC.val.injEq, Value.bool.injEq, Value.int.injEq, Value.string.injEq, TV.one.injEq]
      all_goals (repeat' apply And.intro) <;> try first | rfl | trivial | omega | (rw [wrap_id] <;> omega)
      exact ((diskOk_aux a b l).1 hc).symm
    · repeat' first
        | refine W_seq ?_
        | (refine W_reg (s_diskOk_K.env []) s_diskOk_lv fun K' hK' => ?_
           simp only [go_sem, ↓reduceIte, ↓reduceDIte, reduceCtorEq, Nat.reduceAdd, Nat.reduceMul, Nat.reduceSub, Nat.reduceLT, Nat.reduceLeDiff, Nat.reduceEqDiff, Nat.reduceBEq, Int.reduceToNat, Int.reduceLE, Int.reduceLT, Int.reduceEq, Int.reduceNe, Int.reduceNeg]
           (repeat' apply And.intro) <;> try first | ((with_reducible refine hK' _ ?_ ?_ ?_); rotate_left; (simp only [go_sem, pr, keepSl, ↓reduceIte, Nat.reduceEqDiff]; try rfl); clear hK' K') | (clear hK' K'; first | omega | (with_reducible refine drawOk_k ?_; kernel_rfl) | assumption | refine Eq.refl _ | exact fun h => ⟨h, fun k => ⟨h, k⟩⟩ | (intro _; (repeat' apply And.intro) <;> first | omega | assumption) | skip))
        | with_reducible first | refine W_skip ?_ | refine W_exit ?_ | refine W_ret ?_ | refine W_block ?_ | refine thenG_n ?_ | refine thenG_x ?_ | refine thenG_r ?_ | refine blockG_n ?_ | refine blockG_r ?_ | refine blockG_x ?_ | refine blockG_o (by decide) ?_
      refine ⟨by (simp only [go_sem, ↓reduceIte, reduceCtorEq, Nat.reduceAdd, Nat.reduceLT, Nat.reduceLeDiff, Nat.reduceEqDiff]) <;> trivial, [], ?_⟩
      all_goals try simp only [go_sem, ↓reduceIte, reduceCtorEq, Nat.reduceAdd, Nat.reduceLT, Nat.reduceLeDiff, Nat.reduceEqDiff, Int.reduceEq, TC.val.injEq, Value.bool.injEq, Value.int.injEq, Value.string.injEq, TV.one.injEq]
      all_goals (repeat' apply And.intro) <;> try first | rfl | trivial | omega | (rw [wrap_id] <;> omega)
      exact (diskOk_aux a b l).2 hc
  · simp [no, ifp] at hp
end Go.Proofs.Ytfmeopnankeaeaa
